/-
  The law 'FnExactFeedMore' returns true, at every input, under no condition: the statement 'Rows.FnExactFeedMoreSaid'. The walk takes the functions that the law calls by their contracts; the frame about it opens the arguments and hands them back as they were.
-/
import Derived.Test.YtcnhmidiakojhaaFeedMore
import Derived.Test.YtcnhmidiakojhaaNew
import Derived.Test.YtcnhmidiakojhaaOpen
import Derived.Test.YtcnhmidiakojhaaRows
import Derived.WalkKit
import Derived.ProofKit
import Derived.OpenShut
import Derived.ShutString
import Derived.ChangeOld
import Derived.Below
namespace Go.Proofs.Ytcnhmidiakojhaa.fnExactFeedMore
open Go.Joins (open_agg2 open_agg3)
open Go.ChangeShapes Go.WideShapes Go.ChangeAt Go.RowKit
open Go.ChangeMaps (open_string shut_string)
set_option linter.unusedVariables false

theorem own : ownKnob Try.prog.godebug = none := by kernel_rfl
theorem laidOut : laidOutB Try.prog = true := by kernel_rfl
theorem bel_alloc_ {a w : World} (h : Below a.heap.size a w) (o : Obj) : Below a.heap.size a (w.alloc o) := h.alloc h.size o
theorem size_drew_ (w : World) : w.drew.heap.size = w.heap.size := rfl
theorem below_of_alloc {w w' : World} {o : Obj} (h : w.alloc o = w') : Below w.heap.size w w' := h ▸ (Below.refl _ _).alloc (Nat.le_refl _) _
theorem below_of_alloc1 {w w' : World} {o : Obj} {n : Nat} (h : (w.alloc o).drewN n = w') : Below w.heap.size w w' := h ▸ bel_drewN ((Below.refl _ _).alloc (Nat.le_refl _) _) _
theorem below_of_alloc2 {w w' : World} {o o' : Obj} {n : Nat} (h : ((w.alloc o).alloc o').drewN n = w') : Below w.heap.size w w' := h ▸ bel_drewN (((Below.refl _ _).alloc (Nat.le_refl _) _).alloc (by simp) _) _
theorem moreSt_len (a b : Int) (zs : List Int) (r : ByteArray) (d : Int) (x t : ByteArray) : (moreSt (moreOk a b zs.length r d x) zs t).length ≤ 8 := by
  cases hk : moreOk a b zs.length r d x
  · simp [moreSt]
  · have h1 : feedOk a b zs.length r d = true := by simp only [moreOk, Bool.and_eq_true] at hk; exact hk.1
    obtain ⟨-, -, h3, -⟩ := feedOk_spec h1
    exact Nat.le_of_eq (length_mixT _ _ h3)

set_option maxHeartbeats 2000000 in
theorem walk (a0_0 : Int) (a0_1 : Int) (a0_2 : Option Addr) (cap0_2 : Nat) (z0_2 : List Int) (a0_3 : ByteArray) (a0_4 : Int) (a1 : ByteArray) (w : World) (w0_0 : (Lit.int .i64 a0_0).wf = true) (w0_1 : (Lit.int .i64 a0_1).wf = true) (w0_2 : Rd w 0 w.heap.size a0_2 (ints .u32 z0_2)) (l0_2 : z0_2.length ≤ cap0_2 ∧ cap0_2 ≤ maxLen) (b0_2 : ∀ n ∈ z0_2, (Lit.int .u32 n).wf = true) (w0_3 : a0_3.size ≤ maxLen) (w0_4 : (Lit.int .i64 a0_4).wf = true) (w1 : a1.size ≤ maxLen) :
    Calls Try.prog 3 #[.agg #[.int .i64 a0_0, .int .i64 a0_1, .slice a0_2 z0_2.length cap0_2, .string a0_3, .int .i64 a0_4], .string a1] w fun e w' => e = .returned (.bool true) ∧ Below w.heap.size w w' := by
  unfold maxLen at l0_2 w0_3 w1
  have hz : z0_2.length ≤ 9223372036854775807 := by omega
  have hr : a0_3.size ≤ 9223372036854775807 := by omega
  have hm := moreSt_len a0_0 a0_1 z0_2 a0_3 a0_4 a1 (a0_3 ++ a1)
  have hn : (moreSt (moreOk a0_0 a0_1 z0_2.length a0_3 a0_4 a1) z0_2 (a0_3 ++ a1)).length ≤ 9223372036854775807 := by omega
  have H1 := hide w0_2
  clear w0_2 w0_0 w0_1 w0_3 w0_4 b0_2 l0_2
  by_cases ht : (a1.size : Int) ≤ 1048576
  case neg =>
    have ht' : (1048576 : Int) < a1.size := by omega
    clear H1
    go_enter Try.func3, Try.ntmps3
    go_wp2
    go_ret
    exact ⟨rfl, by repeat (first | exact Below.refl _ _ | refine Below.alloc ?_ (by simp; try omega) _)⟩
  by_cases hl : (z0_2.length : Int) + a0_3.size ≤ 1048576
  · have g : 0 ≤ (1048576 : Int) - z0_2.length - a0_3.size := by omega
    go_enter Try.func3, Try.ntmps3
    go_wp2_with fail
    refine (l_szFeed_in _ _ _ _ _ _ _ _ hl (by omega) _).mono ?_
    rintro e w_1 ⟨rfl, hw⟩
    have hb := below_of_alloc hw
    clear hw
    have l_T2 := hide (((Loc.new w _ _)).below hb)
    obtain ⟨y_T2, q_T2⟩ := l_T2.out; clear l_T2
    have H_1 := hide ((((H1.out).alloc _)).below hb)
    clear H1
    have bb1 := hide (bel_new (bel_alloc_ (Below.refl _ _) _) hb ((bel_alloc_ (Below.refl _ _) _)).size)
    have sz1 := hb.size
    simp only [World.size_alloc] at sz1
    replace sz1 := hide sz1
    clear hb
    go_wp2_with fail
    refine (l_toFeed _ _ _ _ _ _ _ _ _ _ (H_1.out) (by omega)).mono ?_
    rintro e w_2 ⟨A2, c2, rfl, hb, ho⟩
    have l_T2 := hide (((show Loc _ _ _ from ⟨y_T2, q_T2⟩)).below hb)
    clear q_T2 y_T2
    obtain ⟨y_T2, q_T2⟩ := l_T2.out; clear l_T2
    have H_2 := hide (((H_1.out)).below hb)
    clear H_1
    have S1_2 := hide ho
    have bb2 := hide (bel_new bb1.out hb (bb1.out).size)
    clear bb1
    have sz2 := hb.size
    replace sz2 := hide sz2
    clear hb ho
    go_wp2_with fail
    refine (s_FeedMore _ _ _ _ _ _ _ _ _ _ _ (S1_2.out).rd).mono ?_
    rintro e w_3 ⟨A3, c3, rfl, hb, ho⟩
    have l_T2 := hide (((show Loc _ _ _ from ⟨y_T2, q_T2⟩)).below hb)
    clear q_T2 y_T2
    obtain ⟨y_T2, q_T2⟩ := l_T2.out; clear l_T2
    have H_3 := hide (((H_2.out)).below hb)
    clear H_2
    have S1_3 := hide (((S1_2.out)).below hb)
    clear S1_2
    have RW_3 := hide ho
    have bb3 := hide (bel_new bb2.out hb (bb2.out).size)
    clear bb2
    have sz3 := hb.size
    replace sz3 := hide sz3
    clear hb ho
    clear S1_3
    go_wp2_with fail
    refine (l_toFeed _ _ _ _ _ _ _ _ _ _ ((H_3.out).alloc _) (by omega)).mono ?_
    rintro e w_4 ⟨A4, c4, rfl, hb, ho⟩
    have l_T2 := hide ((((show Loc _ _ _ from ⟨y_T2, q_T2⟩)).alloc _).below hb)
    have l_T6 := hide (((Loc.new w_3 _ _)).below hb)
    clear q_T2 y_T2
    obtain ⟨y_T2, q_T2⟩ := l_T2.out; clear l_T2
    obtain ⟨y_T6, q_T6⟩ := l_T6.out; clear l_T6
    have H_4 := hide ((((H_3.out).alloc _)).below hb)
    clear H_3
    have RW_4 := hide ((((RW_3.out).alloc _)).below hb)
    clear RW_3
    have OX_4 := hide ho
    have bb4 := hide (bel_new (bel_alloc_ bb3.out _) hb ((bel_alloc_ bb3.out _)).size)
    clear bb3
    have sz4 := hb.size
    simp only [World.size_alloc] at sz4
    replace sz4 := hide sz4
    clear hb ho
    go_wp2_with fail
    refine (i_FeedMore _ _ _ _ _ _ _ _ _ _ _ ((OX_4.out).alloc _)).mono ?_
    rintro e w_5 ⟨A5, c5, rfl, hb, ho⟩
    have l_T2 := hide ((((show Loc _ _ _ from ⟨y_T2, q_T2⟩)).alloc _).below hb)
    have l_T6 := hide ((((show Loc _ _ _ from ⟨y_T6, q_T6⟩)).alloc _).below hb)
    have l_T8 := hide (((Loc.new w_4 _ _)).below hb)
    clear q_T2 y_T2 q_T6 y_T6
    obtain ⟨y_T2, q_T2⟩ := l_T2.out; clear l_T2
    obtain ⟨y_T6, q_T6⟩ := l_T6.out; clear l_T6
    obtain ⟨y_T8, q_T8⟩ := l_T8.out; clear l_T8
    have H_5 := hide ((((H_4.out).alloc _)).below hb)
    clear H_4
    have RW_5 := hide ((((RW_4.out).alloc _)).below hb)
    clear RW_4
    have OX_5 := hide ((((OX_4.out).alloc _)).below hb)
    clear OX_4
    have OG_5 := hide ho
    have bb5 := hide (bel_new (bel_alloc_ bb4.out _) hb ((bel_alloc_ bb4.out _)).size)
    clear bb4
    have sz5 := hb.size
    simp only [World.size_alloc] at sz5
    replace sz5 := hide sz5
    clear hb ho
    go_wp2_with fail
    refine (l_eqFeed _ _ (moreSt (moreOk a0_0 a0_1 z0_2.length a0_3 a0_4 a1) z0_2 (a0_3 ++ a1)) _ _ _ _ _ _ _ _ _ _ _ ((OG_5.out).alloc _).rd ((RW_5.out).alloc _) hn).mono ?_
    rintro e w_6 ⟨rfl, o1, o2, n, hw⟩
    have hb := below_of_alloc2 hw
    clear hw
    have l_T2 := hide ((((show Loc _ _ _ from ⟨y_T2, q_T2⟩)).alloc _).below hb)
    have l_T6 := hide ((((show Loc _ _ _ from ⟨y_T6, q_T6⟩)).alloc _).below hb)
    have l_T8 := hide ((((show Loc _ _ _ from ⟨y_T8, q_T8⟩)).alloc _).below hb)
    have l_T9 := hide (((Loc.new w_5 _ _)).below hb)
    clear q_T2 y_T2 q_T6 y_T6 q_T8 y_T8
    obtain ⟨y_T2, q_T2⟩ := l_T2.out; clear l_T2
    obtain ⟨y_T6, q_T6⟩ := l_T6.out; clear l_T6
    obtain ⟨y_T8, q_T8⟩ := l_T8.out; clear l_T8
    obtain ⟨y_T9, q_T9⟩ := l_T9.out; clear l_T9
    have H_6 := hide ((((H_5.out).alloc _)).below hb)
    clear H_5
    have RW_6 := hide ((((RW_5.out).alloc _)).below hb)
    clear RW_5
    have OX_6 := hide ((((OX_5.out).alloc _)).below hb)
    clear OX_5
    have OG_6 := hide ((((OG_5.out).alloc _)).below hb)
    clear OG_5
    have bb6 := hide (bel_new (bel_alloc_ bb5.out _) hb ((bel_alloc_ bb5.out _)).size)
    clear bb5
    have sz6 := hb.size
    simp only [World.size_alloc] at sz6
    replace sz6 := hide sz6
    clear hb
    go_wp2_with fail
    refine wp_region_held_drew (S := fun w' => Below w_6.heap.size w_6 w') (by kernel_rfl) (below_drew (Below.refl _ _)) (fun hHeld => ?_)
    refine take_first 0 48 (.agg #[.int .i64 a0_0, .int .i64 a0_1, .slice A4 z0_2.length c4, .string a0_3, .int .i64 a0_4]) rfl (by kernel_rfl) (by kernel_rfl) (by kernel_rfl) (fun _ _ _ h => h) rfl (.inl ⟨by rfl, fun w' hw' => by obtain ⟨y', q'⟩ := Loc.below (show Loc _ _ _ from ⟨y_T8, q_T8⟩) hw'; go_simp⟩) hHeld ?_
    simp only [Act.put, List.setIfInBounds_toArray, List.set_cons_zero, List.set_cons_succ]
    refine take_first 1 49 (.agg #[.int .i64 a0_0, .int .i64 a0_1, .slice a0_2 z0_2.length cap0_2, .string a0_3, .int .i64 a0_4]) rfl (by kernel_rfl) (by kernel_rfl) (by kernel_rfl) (fun _ _ _ h => h) rfl (.inl ⟨by rfl, fun w' hw' => by obtain ⟨y', q'⟩ := Loc.below (show Loc _ _ _ from ⟨y_T2, q_T2⟩) hw'; go_simp⟩) hHeld ?_
    simp only [Act.put, List.setIfInBounds_toArray, List.set_cons_zero, List.set_cons_succ]
    refine wpAnyH_ready (rs := [2]) (by kernel_rfl) (by simp) (AllReadyH.cons rfl (fun K hK => ?_) AllReadyH.nil)
    go_simp
    refine (l_toFeed _ _ _ _ _ _ _ _ _ _ H_6.out.drew (by omega)).mono ?_
    rintro e w_7 ⟨A7, c7, rfl, hb0, ho⟩
    dsimp only
    have hb := bel_new hHeld hb0 hHeld.size
    clear hHeld hb0
    have l_T2 := hide (((show Loc _ _ _ from ⟨y_T2, q_T2⟩)).below hb)
    have l_T6 := hide (((show Loc _ _ _ from ⟨y_T6, q_T6⟩)).below hb)
    have l_T8 := hide (((show Loc _ _ _ from ⟨y_T8, q_T8⟩)).below hb)
    have l_T9 := hide (((show Loc _ _ _ from ⟨y_T9, q_T9⟩)).below hb)
    clear q_T2 y_T2 q_T6 y_T6 q_T8 y_T8 q_T9 y_T9
    obtain ⟨y_T2, q_T2⟩ := l_T2.out; clear l_T2
    obtain ⟨y_T6, q_T6⟩ := l_T6.out; clear l_T6
    obtain ⟨y_T8, q_T8⟩ := l_T8.out; clear l_T8
    obtain ⟨y_T9, q_T9⟩ := l_T9.out; clear l_T9
    have H_7 := hide (((H_6.out)).below hb)
    clear H_6
    have RW_7 := hide (((RW_6.out)).below hb)
    clear RW_6
    have OX_7 := hide (((OX_6.out)).below hb)
    clear OX_6
    have OG_7 := hide (((OG_6.out)).below hb)
    clear OG_6
    have Z_7 := hide ho
    have bb7 := hide (bel_new bb6.out hb (bb6.out).size)
    clear bb6
    have sz7 := hb.size
    replace sz7 := hide sz7
    clear ho
    refine hK.out _ _ hb (fun hHeld => ?_)
    clear hK K hb
    refine wpAnyH_ready (rs := [3]) (by kernel_rfl) (by simp) (AllReadyH.cons rfl (fun K hK => ?_) AllReadyH.nil)
    go_simp
    refine (l_eqFeed _ _ z0_2 _ _ _ _ _ _ _ _ _ _ _ (OX_7.out).rd (Z_7.out).rd hz).mono ?_
    rintro e w_8 ⟨rfl, o1, o2, n, hw⟩
    dsimp only
    have hb := below_of_alloc2 hw
    have hS := bel_new hHeld hb hHeld.size
    clear hHeld hw
    have l_T2 := hide (((show Loc _ _ _ from ⟨y_T2, q_T2⟩)).below hb)
    have l_T6 := hide (((show Loc _ _ _ from ⟨y_T6, q_T6⟩)).below hb)
    have l_T8 := hide (((show Loc _ _ _ from ⟨y_T8, q_T8⟩)).below hb)
    have l_T9 := hide (((show Loc _ _ _ from ⟨y_T9, q_T9⟩)).below hb)
    clear q_T2 y_T2 q_T6 y_T6 q_T8 y_T8 q_T9 y_T9
    obtain ⟨y_T2, q_T2⟩ := l_T2.out; clear l_T2
    obtain ⟨y_T6, q_T6⟩ := l_T6.out; clear l_T6
    obtain ⟨y_T8, q_T8⟩ := l_T8.out; clear l_T8
    obtain ⟨y_T9, q_T9⟩ := l_T9.out; clear l_T9
    have H_8 := hide (((H_7.out)).below hb)
    clear H_7
    have RW_8 := hide (((RW_7.out)).below hb)
    clear RW_7
    have OX_8 := hide (((OX_7.out)).below hb)
    clear OX_7
    have OG_8 := hide (((OG_7.out)).below hb)
    clear OG_7
    have Z_8 := hide (((Z_7.out)).below hb)
    clear Z_7
    have bb8 := hide (bel_new bb7.out hb (bb7.out).size)
    clear bb7
    have sz8 := hb.size
    replace sz8 := hide sz8
    clear hb
    refine hK.out _ _ hS (fun hHeld => ?_)
    clear hK K hS
    refine take_first 4 52 (.bool false) rfl (by kernel_rfl) (by kernel_rfl) (by kernel_rfl) (fun _ _ _ h => h) rfl (.inl ⟨by rfl, fun w' hw' => by go_simp⟩) hHeld ?_
    simp only [Act.put, List.setIfInBounds_toArray, List.set_cons_zero, List.set_cons_succ]
    refine wpAnyH_done (by kernel_rfl) ?_ _
    clear hHeld
    clear Z_8
    go_wp2_with fail
    refine (l_markFeed 1 _ _ z0_2 _ _ _ _ _ _ _ (OX_8.out) (by have := sz1.out; have := sz2.out; have := sz3.out; have := sz4.out; have := sz5.out; have := sz6.out; have := sz7.out; have := sz8.out; first | omega | (simp; done) | (simp; omega)) (by omega) (by omega)).mono ?_
    rintro e w_9 ⟨rfl, hc, ho, hs⟩
    have l_T2 := hide (((show Loc _ _ _ from ⟨y_T2, q_T2⟩)).chg hc (by have := sz1.out; have := sz2.out; have := sz3.out; have := sz4.out; have := sz5.out; have := sz6.out; have := sz7.out; have := sz8.out; first | omega | (simp; done) | (simp; omega)))
    have l_T6 := hide (((show Loc _ _ _ from ⟨y_T6, q_T6⟩)).chg hc (by have := sz1.out; have := sz2.out; have := sz3.out; have := sz4.out; have := sz5.out; have := sz6.out; have := sz7.out; have := sz8.out; first | omega | (simp; done) | (simp; omega)))
    have l_T8 := hide (((show Loc _ _ _ from ⟨y_T8, q_T8⟩)).chg hc (by have := sz1.out; have := sz2.out; have := sz3.out; have := sz4.out; have := sz5.out; have := sz6.out; have := sz7.out; have := sz8.out; first | omega | (simp; done) | (simp; omega)))
    have l_T9 := hide (((show Loc _ _ _ from ⟨y_T9, q_T9⟩)).chg hc (by have := sz1.out; have := sz2.out; have := sz3.out; have := sz4.out; have := sz5.out; have := sz6.out; have := sz7.out; have := sz8.out; first | omega | (simp; done) | (simp; omega)))
    clear q_T2 y_T2 q_T6 y_T6 q_T8 y_T8 q_T9 y_T9
    obtain ⟨y_T2, q_T2⟩ := l_T2.out; clear l_T2
    obtain ⟨y_T6, q_T6⟩ := l_T6.out; clear l_T6
    obtain ⟨y_T8, q_T8⟩ := l_T8.out; clear l_T8
    obtain ⟨y_T9, q_T9⟩ := l_T9.out; clear l_T9
    have H_9 := hide (((H_8.out)).chg hc (by have := sz1.out; have := sz2.out; have := sz3.out; have := sz4.out; have := sz5.out; have := sz6.out; have := sz7.out; have := sz8.out; first | omega | (simp; done) | (simp; omega)))
    clear H_8
    have RW_9 := hide (((RW_8.out)).chg hc (by have := sz1.out; have := sz2.out; have := sz3.out; have := sz4.out; have := sz5.out; have := sz6.out; have := sz7.out; have := sz8.out; first | omega | (simp; done) | (simp; omega)))
    clear RW_8
    have OX_9 := hide ho
    clear OX_8
    have OG_9 := hide (((OG_8.out)).chg hc (by have := sz1.out; have := sz2.out; have := sz3.out; have := sz4.out; have := sz5.out; have := sz6.out; have := sz7.out; have := sz8.out; first | omega | (simp; done) | (simp; omega)))
    clear OG_8
    have bb9 := hide (bel_chg bb8.out hc (bb8.out).size (by have := sz1.out; have := sz2.out; have := sz3.out; have := sz4.out; have := sz5.out; have := sz6.out; have := sz7.out; have := sz8.out; first | omega | (simp; done) | (simp; omega)))
    clear bb8
    have sz9 := hc.size
    replace sz9 := hide sz9
    clear hc ho hs
    clear OX_9
    go_wp2_with fail
    refine (l_eqFeed _ _ (moreSt (moreOk a0_0 a0_1 z0_2.length a0_3 a0_4 a1) z0_2 (a0_3 ++ a1)) _ _ _ _ _ _ _ _ _ _ _ (OG_9.out).rd (RW_9.out) hn).mono ?_
    rintro e w_10 ⟨rfl, o1, o2, n, hw⟩
    have hb := below_of_alloc2 hw
    clear hw
    have l_T2 := hide (((show Loc _ _ _ from ⟨y_T2, q_T2⟩)).below hb)
    have l_T6 := hide (((show Loc _ _ _ from ⟨y_T6, q_T6⟩)).below hb)
    have l_T8 := hide (((show Loc _ _ _ from ⟨y_T8, q_T8⟩)).below hb)
    have l_T9 := hide (((show Loc _ _ _ from ⟨y_T9, q_T9⟩)).below hb)
    clear q_T2 y_T2 q_T6 y_T6 q_T8 y_T8 q_T9 y_T9
    obtain ⟨y_T2, q_T2⟩ := l_T2.out; clear l_T2
    obtain ⟨y_T6, q_T6⟩ := l_T6.out; clear l_T6
    obtain ⟨y_T8, q_T8⟩ := l_T8.out; clear l_T8
    obtain ⟨y_T9, q_T9⟩ := l_T9.out; clear l_T9
    have H_10 := hide (((H_9.out)).below hb)
    clear H_9
    have RW_10 := hide (((RW_9.out)).below hb)
    clear RW_9
    have OG_10 := hide (((OG_9.out)).below hb)
    clear OG_9
    have bb10 := hide (bel_new bb9.out hb (bb9.out).size)
    clear bb9
    have sz10 := hb.size
    replace sz10 := hide sz10
    clear hb
    go_wp2_with fail
    refine (l_markFeed 1 _ _ (moreSt (moreOk a0_0 a0_1 z0_2.length a0_3 a0_4 a1) z0_2 (a0_3 ++ a1)) _ _ _ _ _ _ _ (OG_10.out) (by have := sz1.out; have := sz2.out; have := sz3.out; have := sz4.out; have := sz5.out; have := sz6.out; have := sz7.out; have := sz8.out; have := sz9.out; have := sz10.out; first | omega | (simp; done) | (simp; omega)) (by omega) (by omega)).mono ?_
    rintro e w_11 ⟨rfl, hc, ho, hs⟩
    have l_T2 := hide (((show Loc _ _ _ from ⟨y_T2, q_T2⟩)).chg hc (by have := sz1.out; have := sz2.out; have := sz3.out; have := sz4.out; have := sz5.out; have := sz6.out; have := sz7.out; have := sz8.out; have := sz9.out; have := sz10.out; first | omega | (simp; done) | (simp; omega)))
    have l_T6 := hide (((show Loc _ _ _ from ⟨y_T6, q_T6⟩)).chg hc (by have := sz1.out; have := sz2.out; have := sz3.out; have := sz4.out; have := sz5.out; have := sz6.out; have := sz7.out; have := sz8.out; have := sz9.out; have := sz10.out; first | omega | (simp; done) | (simp; omega)))
    have l_T8 := hide (((show Loc _ _ _ from ⟨y_T8, q_T8⟩)).chg hc (by have := sz1.out; have := sz2.out; have := sz3.out; have := sz4.out; have := sz5.out; have := sz6.out; have := sz7.out; have := sz8.out; have := sz9.out; have := sz10.out; first | omega | (simp; done) | (simp; omega)))
    have l_T9 := hide (((show Loc _ _ _ from ⟨y_T9, q_T9⟩)).chg hc (by have := sz1.out; have := sz2.out; have := sz3.out; have := sz4.out; have := sz5.out; have := sz6.out; have := sz7.out; have := sz8.out; have := sz9.out; have := sz10.out; first | omega | (simp; done) | (simp; omega)))
    clear q_T2 y_T2 q_T6 y_T6 q_T8 y_T8 q_T9 y_T9
    obtain ⟨y_T2, q_T2⟩ := l_T2.out; clear l_T2
    obtain ⟨y_T6, q_T6⟩ := l_T6.out; clear l_T6
    obtain ⟨y_T8, q_T8⟩ := l_T8.out; clear l_T8
    obtain ⟨y_T9, q_T9⟩ := l_T9.out; clear l_T9
    have H_11 := hide (((H_10.out)).chg hc (by have := sz1.out; have := sz2.out; have := sz3.out; have := sz4.out; have := sz5.out; have := sz6.out; have := sz7.out; have := sz8.out; have := sz9.out; have := sz10.out; first | omega | (simp; done) | (simp; omega)))
    clear H_10
    have RW_11 := hide (((RW_10.out)).chg hc (by have := sz1.out; have := sz2.out; have := sz3.out; have := sz4.out; have := sz5.out; have := sz6.out; have := sz7.out; have := sz8.out; have := sz9.out; have := sz10.out; first | omega | (simp; done) | (simp; omega)))
    clear RW_10
    have OG_11 := hide ho
    clear OG_10
    have bb11 := hide (bel_chg bb10.out hc (bb10.out).size (by have := sz1.out; have := sz2.out; have := sz3.out; have := sz4.out; have := sz5.out; have := sz6.out; have := sz7.out; have := sz8.out; have := sz9.out; have := sz10.out; first | omega | (simp; done) | (simp; omega)))
    clear bb10
    have sz11 := hc.size
    replace sz11 := hide sz11
    clear hc ho hs
    go_wp2_with fail
    refine (l_heldFeed 1 _ _ (moreSt (moreOk a0_0 a0_1 z0_2.length a0_3 a0_4 a1) z0_2 (a0_3 ++ a1)).length _ _ _ _ _ _ _ (OG_11.out).rd (by omega) (by omega)).mono ?_
    rintro e w_12 ⟨rfl, o1, n, hw⟩
    have hb := below_of_alloc1 hw
    clear hw
    have l_T2 := hide (((show Loc _ _ _ from ⟨y_T2, q_T2⟩)).below hb)
    have l_T6 := hide (((show Loc _ _ _ from ⟨y_T6, q_T6⟩)).below hb)
    have l_T8 := hide (((show Loc _ _ _ from ⟨y_T8, q_T8⟩)).below hb)
    have l_T9 := hide (((show Loc _ _ _ from ⟨y_T9, q_T9⟩)).below hb)
    clear q_T2 y_T2 q_T6 y_T6 q_T8 y_T8 q_T9 y_T9
    obtain ⟨y_T2, q_T2⟩ := l_T2.out; clear l_T2
    obtain ⟨y_T6, q_T6⟩ := l_T6.out; clear l_T6
    obtain ⟨y_T8, q_T8⟩ := l_T8.out; clear l_T8
    obtain ⟨y_T9, q_T9⟩ := l_T9.out; clear l_T9
    have H_12 := hide (((H_11.out)).below hb)
    clear H_11
    have RW_12 := hide (((RW_11.out)).below hb)
    clear RW_11
    have OG_12 := hide (((OG_11.out)).below hb)
    clear OG_11
    have bb12 := hide (bel_new bb11.out hb (bb11.out).size)
    clear bb11
    have sz12 := hb.size
    replace sz12 := hide sz12
    clear hb
    go_wp2_with fail
    refine (l_toFeed _ _ _ _ _ _ _ _ _ _ (H_12.out) (by omega)).mono ?_
    rintro e w_13 ⟨A13, c13, rfl, hb, ho⟩
    have l_T2 := hide (((show Loc _ _ _ from ⟨y_T2, q_T2⟩)).below hb)
    have l_T6 := hide (((show Loc _ _ _ from ⟨y_T6, q_T6⟩)).below hb)
    have l_T8 := hide (((show Loc _ _ _ from ⟨y_T8, q_T8⟩)).below hb)
    have l_T9 := hide (((show Loc _ _ _ from ⟨y_T9, q_T9⟩)).below hb)
    clear q_T2 y_T2 q_T6 y_T6 q_T8 y_T8 q_T9 y_T9
    obtain ⟨y_T2, q_T2⟩ := l_T2.out; clear l_T2
    obtain ⟨y_T6, q_T6⟩ := l_T6.out; clear l_T6
    obtain ⟨y_T8, q_T8⟩ := l_T8.out; clear l_T8
    obtain ⟨y_T9, q_T9⟩ := l_T9.out; clear l_T9
    have H_13 := hide (((H_12.out)).below hb)
    clear H_12
    have RW_13 := hide (((RW_12.out)).below hb)
    clear RW_12
    have OG_13 := hide (((OG_12.out)).below hb)
    clear OG_12
    have S2_13 := hide ho
    have bb13 := hide (bel_new bb12.out hb (bb12.out).size)
    clear bb12
    have sz13 := hb.size
    replace sz13 := hide sz13
    clear hb ho
    go_wp2_with fail
    refine (i_FeedMore _ _ _ _ _ _ _ _ _ _ _ (S2_13.out)).mono ?_
    rintro e w_14 ⟨A14, c14, rfl, hb, ho⟩
    have l_T2 := hide (((show Loc _ _ _ from ⟨y_T2, q_T2⟩)).below hb)
    have l_T6 := hide (((show Loc _ _ _ from ⟨y_T6, q_T6⟩)).below hb)
    have l_T8 := hide (((show Loc _ _ _ from ⟨y_T8, q_T8⟩)).below hb)
    have l_T9 := hide (((show Loc _ _ _ from ⟨y_T9, q_T9⟩)).below hb)
    clear q_T2 y_T2 q_T6 y_T6 q_T8 y_T8 q_T9 y_T9
    obtain ⟨y_T2, q_T2⟩ := l_T2.out; clear l_T2
    obtain ⟨y_T6, q_T6⟩ := l_T6.out; clear l_T6
    obtain ⟨y_T8, q_T8⟩ := l_T8.out; clear l_T8
    obtain ⟨y_T9, q_T9⟩ := l_T9.out; clear l_T9
    have H_14 := hide (((H_13.out)).below hb)
    clear H_13
    have RW_14 := hide (((RW_13.out)).below hb)
    clear RW_13
    have OG_14 := hide (((OG_13.out)).below hb)
    clear OG_13
    have S2_14 := hide (((S2_13.out)).below hb)
    clear S2_13
    have OH_14 := hide ho
    have bb14 := hide (bel_new bb13.out hb (bb13.out).size)
    clear bb13
    have sz14 := hb.size
    replace sz14 := hide sz14
    clear hb ho
    clear S2_14
    go_wp2_with fail
    refine (l_eqFeed _ _ (moreSt (moreOk a0_0 a0_1 z0_2.length a0_3 a0_4 a1) z0_2 (a0_3 ++ a1)) _ _ _ _ _ _ _ _ _ _ _ ((OH_14.out).alloc _).rd ((RW_14.out).alloc _) hn).mono ?_
    rintro e w_15 ⟨rfl, o1, o2, n, hw⟩
    have hb := below_of_alloc2 hw
    clear hw
    have l_T2 := hide ((((show Loc _ _ _ from ⟨y_T2, q_T2⟩)).alloc _).below hb)
    have l_T6 := hide ((((show Loc _ _ _ from ⟨y_T6, q_T6⟩)).alloc _).below hb)
    have l_T8 := hide ((((show Loc _ _ _ from ⟨y_T8, q_T8⟩)).alloc _).below hb)
    have l_T9 := hide ((((show Loc _ _ _ from ⟨y_T9, q_T9⟩)).alloc _).below hb)
    have l_T14 := hide (((Loc.new w_14 _ _)).below hb)
    clear q_T2 y_T2 q_T6 y_T6 q_T8 y_T8 q_T9 y_T9
    obtain ⟨y_T2, q_T2⟩ := l_T2.out; clear l_T2
    obtain ⟨y_T6, q_T6⟩ := l_T6.out; clear l_T6
    obtain ⟨y_T8, q_T8⟩ := l_T8.out; clear l_T8
    obtain ⟨y_T9, q_T9⟩ := l_T9.out; clear l_T9
    obtain ⟨y_T14, q_T14⟩ := l_T14.out; clear l_T14
    have H_15 := hide ((((H_14.out).alloc _)).below hb)
    clear H_14
    have RW_15 := hide ((((RW_14.out).alloc _)).below hb)
    clear RW_14
    have OG_15 := hide ((((OG_14.out).alloc _)).below hb)
    clear OG_14
    have OH_15 := hide ((((OH_14.out).alloc _)).below hb)
    clear OH_14
    have bb15 := hide (bel_new (bel_alloc_ bb14.out _) hb ((bel_alloc_ bb14.out _)).size)
    clear bb14
    have sz15 := hb.size
    simp only [World.size_alloc] at sz15
    replace sz15 := hide sz15
    clear hb
    go_wp2_with fail
    refine (l_heldFeed 1 _ _ (moreSt (moreOk a0_0 a0_1 z0_2.length a0_3 a0_4 a1) z0_2 (a0_3 ++ a1)).length _ _ _ _ _ _ _ (OG_15.out).rd (by omega) (by omega)).mono ?_
    rintro e w_16 ⟨rfl, o1, n, hw⟩
    have hb := below_of_alloc1 hw
    clear hw
    have l_T2 := hide (((show Loc _ _ _ from ⟨y_T2, q_T2⟩)).below hb)
    have l_T6 := hide (((show Loc _ _ _ from ⟨y_T6, q_T6⟩)).below hb)
    have l_T8 := hide (((show Loc _ _ _ from ⟨y_T8, q_T8⟩)).below hb)
    have l_T9 := hide (((show Loc _ _ _ from ⟨y_T9, q_T9⟩)).below hb)
    have l_T14 := hide (((show Loc _ _ _ from ⟨y_T14, q_T14⟩)).below hb)
    clear q_T2 y_T2 q_T6 y_T6 q_T8 y_T8 q_T9 y_T9 q_T14 y_T14
    obtain ⟨y_T2, q_T2⟩ := l_T2.out; clear l_T2
    obtain ⟨y_T6, q_T6⟩ := l_T6.out; clear l_T6
    obtain ⟨y_T8, q_T8⟩ := l_T8.out; clear l_T8
    obtain ⟨y_T9, q_T9⟩ := l_T9.out; clear l_T9
    obtain ⟨y_T14, q_T14⟩ := l_T14.out; clear l_T14
    have H_16 := hide (((H_15.out)).below hb)
    clear H_15
    have RW_16 := hide (((RW_15.out)).below hb)
    clear RW_15
    have OG_16 := hide (((OG_15.out)).below hb)
    clear OG_15
    have OH_16 := hide (((OH_15.out)).below hb)
    clear OH_15
    have bb16 := hide (bel_new bb15.out hb (bb15.out).size)
    clear bb15
    have sz16 := hb.size
    replace sz16 := hide sz16
    clear hb
    go_wp2
    go_ret
    exact ⟨rfl, bb16.out⟩
  · clear H1
    go_enter Try.func3, Try.ntmps3
    go_wp2_with (go_at_call 10; refine (l_szFeed_out _ _ _ _ _ _ _ _ (by omega) (by omega) (by omega) hz hr _).mono ?_; rintro e w1 ⟨rfl, rfl⟩)
    go_ret
    exact ⟨rfl, by repeat (first | exact Below.refl _ _ | refine Below.alloc ?_ (by simp; try omega) _)⟩

set_option maxRecDepth 100000 in
theorem lifted (os : Os) (started : os.Started) (H : Type) (enc : TypeId × Value → H) :
    ReturnsInHanded {} Try.checked os 3 .any (Rows.fnExactFeedMoreSpec.pre6 enc Try.prog Try.f3 Rows.fnExactFeedMoreRow.domain false) (Rows.fnExactFeedMoreSpec.post enc Try.prog Try.f3 false true false false) := by
  refine returnsInHanded_of_change (C := Try.checked) own started (by kernel_rfl) Try.func3
    (ChangeSpec.witness6 (enc := enc) (C := Try.checked) false ⟨#[], #[.agg #[.int .i64 0, .int .i64 0, .slice none 0 0, .string ByteArray.empty, .int .i64 0], .string ByteArray.empty], []⟩ 8 (by kernel_rfl) (by kernel_rfl) (by kernel_rfl) (by kernel_rfl)) ?_
  intro W base args ds gs before hval0 hW hcnd _
  have hval : ∀ (j : Nat) t v, Try.f3.params[j]? = some t → args[j]? = some v → Value.okWide Try.prog W .any base t v := hval0
  have hW' := hW
  obtain ⟨p, q, hA0, hV, rfl, hfz, hnd⟩ := hW
  have hA : DataW.TrodAll enc Try.prog W 0 (fun _ => true) true Try.f3.params.toList args.toList ds p := hA0
  rw [Try.params3] at hA hval
  obtain ⟨v0, vs0, d0, ds0, p0, q0, hargs, rfl, rfl, h0, r0⟩ := trodAll_cons hA
  obtain ⟨v1, vs1, d1, ds1, p1, q1, rfl, rfl, rfl, h1, r1⟩ := trodAll_cons r0
  obtain ⟨rfl, rfl, rfl⟩ := trodAll_nil r1
  obtain rfl : args = #[v0, v1] := by cases args; simp_all
  obtain ⟨rfl, rfl⟩ := trodVars_none hV
  have k0 := h0
  have lt0 : ∀ x ∈ p0, x.block < W.heap.size := by obtain ⟨m, hm⟩ := k0; exact DataW.trod_lt m _ _ _ hm
  obtain ⟨c0_0, c0_1, c0_2, c0_3, c0_4, y0_0, y0_1, y0_2, y0_3, y0_4, m0, rfl, f0_0, f0_1, f0_2, f0_3, f0_4⟩ := open_agg5 Try.underlying24 (by kernel_rfl) (by kernel_rfl) (hval 0 24 v0 rfl rfl) h0
  obtain ⟨a0_0, ea0_0, -, w0_0⟩ := DataW.trod_int Try.underlying3 f0_0
  simp only [List.cons.injEq, and_true] at ea0_0
  subst ea0_0
  obtain ⟨a0_1, ea0_1, -, w0_1⟩ := DataW.trod_int Try.underlying3 f0_1
  simp only [List.cons.injEq, and_true] at ea0_1
  subst ea0_1
  obtain ⟨a0_2, cap0_2, z0_2, ea0_2, w0_2, l0_2, b0_2⟩ := rd_ints Try.underlying22 Try.underlying60 (by kernel_rfl) f0_2
  subst ea0_2
  obtain ⟨a0_3, ea0_3, -, w0_3⟩ := DataW.trod_string Try.underlying9 f0_3
  simp only [List.cons.injEq, and_true] at ea0_3
  subst ea0_3
  obtain ⟨a0_4, ea0_4, -, w0_4⟩ := DataW.trod_int Try.underlying3 f0_4
  simp only [List.cons.injEq, and_true] at ea0_4
  subst ea0_4
  obtain ⟨a1, rfl, rfl, rfl, w1⟩ := open_string Try.underlying9 (hval 1 9 v1 rfl rfl) h1
  clear hA0 hval0
  refine (walk a0_0 a0_1 a0_2 cap0_2 z0_2 a0_3 a0_4 a1 W w0_0 w0_1 w0_2 l0_2 b0_2 w0_3 w0_4 w1).mono fun e W' ⟨he, bel⟩ => ?_
  subst he
  exact ⟨_, rfl, _, _, _, [], _, [], hW', trodAll_mk1 (shut_bool Try.underlying4 _), (trodAll_cons_mk (Below.trod laidOut (by kernel_rfl) (of_decide_eq_true (by kernel_rfl)) k0 bel lt0) (trodAll_cons_mk (shut_string Try.underlying9 w1) trodAll_mk0)), rfl, bel.frame _, fun h => by cases h⟩

theorem over : Rows.fnExactFeedMoreRow.holds Try.pinned (OpenSpec.ofChange Rows.fnExactFeedMoreSpec) :=
  OpenClaim.holds_of_wide 3 Try.f3 rfl rfl rfl rfl rfl rfl rfl ⟨rfl, rfl, rfl, rfl, rfl⟩ rfl rfl rfl rfl rfl (by kernel_rfl) Try.func3 (by kernel_rfl)
    (of_decide_eq_true (by kernel_rfl)) (by unfold Func.isWrapper; first | (rw [if_pos (by decide +kernel)]; kernel_rfl) | (rw [if_neg (by decide +kernel)]; exact ⟨rfl, rfl⟩))
    (fun os started H enc _ => lifted os started H enc)

theorem proved : Rows.FnExactFeedMoreSaid := over
#print axioms proved
end Go.Proofs.Ytcnhmidiakojhaa.fnExactFeedMore

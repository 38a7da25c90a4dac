/-
  The law 'FnExactMixIn' returns true, at every input, under no condition: the statement 'Rows.FnExactMixInSaid'. The walk takes the functions that the law calls by their contracts; the frame about it opens the arguments and hands them back as they were.
-/
import Derived.Test.YticpedlcfakaeaaMixInS
import Derived.Test.YticpedlcfakaeaaLibU
import Derived.Test.YticpedlcfakaeaaOpen
import Derived.Test.YticpedlcfakaeaaRows
import Derived.WalkKit
import Derived.ProofKit
import Derived.OpenShut
import Derived.ShutString
import Derived.ChangeOld
import Derived.Below
namespace Go.Proofs.Yticpedlcfakaeaa.fnExactMixIn
open Go.Joins (open_agg2 open_agg3)
open Go.ChangeShapes Go.WideShapes Go.ChangeAt Go.RowKit
open Go.ChangeMaps (open_string shut_string)
set_option linter.unusedVariables false

theorem own : ownKnob Try.prog.godebug = none := by kernel_rfl
theorem laidOut : laidOutB Try.prog = true := by kernel_rfl

set_option maxHeartbeats 2000000 in
theorem walk (a0 : Option Addr) (cap0 : Nat) (z0 : List Int) (a1 : Option Addr) (cap1 : Nat) (z1 : List Int) (w : World) (w0 : Rd w 0 w.heap.size a0 (ints .u32 z0)) (l0 : z0.length ≤ cap0 ∧ cap0 ≤ maxLen) (b0 : ∀ n ∈ z0, (Lit.int .u32 n).wf = true) (w1 : Rd w 0 w.heap.size a1 (ints .u32 z1)) (l1 : z1.length ≤ cap1 ∧ cap1 ≤ maxLen) (b1 : ∀ n ∈ z1, (Lit.int .u32 n).wf = true) :
    Calls Try.prog 8 #[.slice a0 z0.length cap0, .slice a1 z1.length cap1] w fun e w' => e = .returned (.bool true) ∧ Below w.heap.size w w' := by
  unfold maxLen at l0 l1
  have hm := mixI_len z0 z1
  have hn : (mixI z0 z1).length ≤ 9223372036854775807 := by omega
  have hl0 : z0.length ≤ 9223372036854775807 := by omega
  have hl1 : z1.length ≤ 9223372036854775807 := by omega
  have H0 := hide w0
  have H1 := hide w1
  clear w0 w1 b0 b1 l0 l1
  by_cases hl : z0.length ≤ 1048576 ∧ z1.length ≤ 1048576
  · obtain ⟨g0, g1⟩ := hl
    go_enter Try.func8, Try.ntmps8
    go_wp2_with fail
    refine (l_toUint32S _ _ _ _ _ _ H0.out (by omega)).mono ?_
    rintro e w_1 ⟨A1, c1, rfl, hb1, ho1⟩
    have a0_1 := hide (H0.out.below hb1)
    clear H0
    have a1_1 := hide (H1.out.below hb1)
    clear H1
    have X_1 := hide ho1
    have bb1 := hide hb1
    have sz1 := hide hb1.size
    clear hb1 ho1
    go_wp2_with fail
    refine (l_toUint32S _ _ _ _ _ _ a1_1.out (by omega)).mono ?_
    rintro e w_2 ⟨A2, c2, rfl, hb2, ho2⟩
    have a0_2 := hide (a0_1.out.below hb2)
    clear a0_1
    have a1_2 := hide (a1_1.out.below hb2)
    clear a1_1
    have X_2 := hide (X_1.out.below hb2)
    clear X_1
    have Y_2 := hide ho2
    have bb2 := hide (bel_new bb1.out hb2 bb1.out.size)
    clear bb1
    have sz2 := hide hb2.size
    clear hb2 ho2
    go_wp2_with fail
    refine (s_MixIn _ _ _ _ _ _ _ _ _ _ _ X_2.out.rd Y_2.out.rd).mono ?_
    rintro e w_3 ⟨A3, c3, rfl, hb3, ho3⟩
    have a0_3 := hide (a0_2.out.below hb3)
    clear a0_2
    have a1_3 := hide (a1_2.out.below hb3)
    clear a1_2
    have X_3 := hide (X_2.out.below hb3)
    clear X_2
    have Y_3 := hide (Y_2.out.below hb3)
    clear Y_2
    have R_3 := hide ho3
    have bb3 := hide (bel_new bb2.out hb3 bb2.out.size)
    clear bb2
    have sz3 := hide hb3.size
    clear hb3 ho3
    clear X_3
    clear Y_3
    go_wp2_with fail
    refine (l_toUint32S _ _ _ _ _ _ a0_3.out (by omega)).mono ?_
    rintro e w_4 ⟨A4, c4, rfl, hb4, ho4⟩
    have a0_4 := hide (a0_3.out.below hb4)
    clear a0_3
    have a1_4 := hide (a1_3.out.below hb4)
    clear a1_3
    have R_4 := hide (R_3.out.below hb4)
    clear R_3
    have X_4 := hide ho4
    have bb4 := hide (bel_new bb3.out hb4 bb3.out.size)
    clear bb3
    have sz4 := hide hb4.size
    clear hb4 ho4
    go_wp2_with fail
    refine (l_toUint32S _ _ _ _ _ _ a1_4.out (by omega)).mono ?_
    rintro e w_5 ⟨A5, c5, rfl, hb5, ho5⟩
    have a0_5 := hide (a0_4.out.below hb5)
    clear a0_4
    have a1_5 := hide (a1_4.out.below hb5)
    clear a1_4
    have R_5 := hide (R_4.out.below hb5)
    clear R_4
    have X_5 := hide (X_4.out.below hb5)
    clear X_4
    have Y_5 := hide ho5
    have bb5 := hide (bel_new bb4.out hb5 bb4.out.size)
    clear bb4
    have sz5 := hide hb5.size
    clear hb5 ho5
    go_wp2_with fail
    refine (i_MixIn _ _ _ _ _ _ _ _ _ _ _ X_5.out Y_5.out).mono ?_
    rintro e w_6 ⟨A6, c6, rfl, hb6, ho6⟩
    have a0_6 := hide (a0_5.out.below hb6)
    clear a0_5
    have a1_6 := hide (a1_5.out.below hb6)
    clear a1_5
    have R_6 := hide (R_5.out.below hb6)
    clear R_5
    have X_6 := hide (X_5.out.below hb6)
    clear X_5
    have Y_6 := hide (Y_5.out.below hb6)
    clear Y_5
    have G_6 := hide ho6
    have bb6 := hide (bel_new bb5.out hb6 bb5.out.size)
    clear bb5
    have sz6 := hide hb6.size
    clear hb6 ho6
    go_wp2_with fail
    refine (l_eqUint32S _ _ _ _ _ _ _ _ _ _ G_6.out.rd R_6.out.rd hn).mono ?_
    rintro e w_7 ⟨rfl, n7, hw7⟩
    have hb7 := below_of_drewN hw7
    clear hw7
    have a0_7 := hide (a0_6.out.below hb7)
    clear a0_6
    have a1_7 := hide (a1_6.out.below hb7)
    clear a1_6
    have R_7 := hide (R_6.out.below hb7)
    clear R_6
    have X_7 := hide (X_6.out.below hb7)
    clear X_6
    have Y_7 := hide (Y_6.out.below hb7)
    clear Y_6
    have G_7 := hide (G_6.out.below hb7)
    clear G_6
    have bb7 := hide (bel_new bb6.out hb7 bb6.out.size)
    clear bb6
    have sz7 := hide hb7.size
    clear hb7
    go_wp2_with fail
    refine (l_toUint32S _ _ _ _ _ _ a0_7.out (by omega)).mono ?_
    rintro e w_8 ⟨A8, c8, rfl, hb8, ho8⟩
    have a0_8 := hide (a0_7.out.below hb8)
    clear a0_7
    have a1_8 := hide (a1_7.out.below hb8)
    clear a1_7
    have R_8 := hide (R_7.out.below hb8)
    clear R_7
    have X_8 := hide (X_7.out.below hb8)
    clear X_7
    have Y_8 := hide (Y_7.out.below hb8)
    clear Y_7
    have G_8 := hide (G_7.out.below hb8)
    clear G_7
    have Z_8 := hide ho8
    have bb8 := hide (bel_new bb7.out hb8 bb7.out.size)
    clear bb7
    have sz8 := hide hb8.size
    clear hb8 ho8
    go_wp2_with fail
    refine (l_eqUint32S _ _ _ _ _ _ _ _ _ _ X_8.out.rd Z_8.out.rd hl0).mono ?_
    rintro e w_9 ⟨rfl, n9, hw9⟩
    have hb9 := below_of_drewN hw9
    clear hw9
    have a0_9 := hide (a0_8.out.below hb9)
    clear a0_8
    have a1_9 := hide (a1_8.out.below hb9)
    clear a1_8
    have R_9 := hide (R_8.out.below hb9)
    clear R_8
    have X_9 := hide (X_8.out.below hb9)
    clear X_8
    have Y_9 := hide (Y_8.out.below hb9)
    clear Y_8
    have G_9 := hide (G_8.out.below hb9)
    clear G_8
    have Z_9 := hide (Z_8.out.below hb9)
    clear Z_8
    have bb9 := hide (bel_new bb8.out hb9 bb8.out.size)
    clear bb8
    have sz9 := hide hb9.size
    clear hb9
    clear Z_9
    go_wp2_with fail
    refine (l_toUint32S _ _ _ _ _ _ a1_9.out (by omega)).mono ?_
    rintro e w_10 ⟨A10, c10, rfl, hb10, ho10⟩
    have a0_10 := hide (a0_9.out.below hb10)
    clear a0_9
    have a1_10 := hide (a1_9.out.below hb10)
    clear a1_9
    have R_10 := hide (R_9.out.below hb10)
    clear R_9
    have X_10 := hide (X_9.out.below hb10)
    clear X_9
    have Y_10 := hide (Y_9.out.below hb10)
    clear Y_9
    have G_10 := hide (G_9.out.below hb10)
    clear G_9
    have Z_10 := hide ho10
    have bb10 := hide (bel_new bb9.out hb10 bb9.out.size)
    clear bb9
    have sz10 := hide hb10.size
    clear hb10 ho10
    go_wp2_with fail
    refine (l_eqUint32S _ _ _ _ _ _ _ _ _ _ Y_10.out.rd Z_10.out.rd hl1).mono ?_
    rintro e w_11 ⟨rfl, n11, hw11⟩
    have hb11 := below_of_drewN hw11
    clear hw11
    have a0_11 := hide (a0_10.out.below hb11)
    clear a0_10
    have a1_11 := hide (a1_10.out.below hb11)
    clear a1_10
    have R_11 := hide (R_10.out.below hb11)
    clear R_10
    have X_11 := hide (X_10.out.below hb11)
    clear X_10
    have Y_11 := hide (Y_10.out.below hb11)
    clear Y_10
    have G_11 := hide (G_10.out.below hb11)
    clear G_10
    have Z_11 := hide (Z_10.out.below hb11)
    clear Z_10
    have bb11 := hide (bel_new bb10.out hb11 bb10.out.size)
    clear bb10
    have sz11 := hide hb11.size
    clear hb11
    clear Z_11
    go_wp2_with fail
    refine (l_markUint32S 1 z0 _ _ _ _ X_11.out (by omega) (by omega)).mono ?_
    rintro e w_12 ⟨rfl, hc12, ho12, hs12⟩
    have a0_12 := hide (a0_11.out.chg hc12 (by have := sz1.out; have := sz2.out; have := sz3.out; have := sz4.out; have := sz5.out; have := sz6.out; have := sz7.out; have := sz8.out; have := sz9.out; have := sz10.out; have := sz11.out; omega))
    clear a0_11
    have a1_12 := hide (a1_11.out.chg hc12 (by have := sz1.out; have := sz2.out; have := sz3.out; have := sz4.out; have := sz5.out; have := sz6.out; have := sz7.out; have := sz8.out; have := sz9.out; have := sz10.out; have := sz11.out; omega))
    clear a1_11
    have R_12 := hide (R_11.out.chg hc12 (by have := sz1.out; have := sz2.out; have := sz3.out; have := sz4.out; have := sz5.out; have := sz6.out; have := sz7.out; have := sz8.out; have := sz9.out; have := sz10.out; have := sz11.out; omega))
    clear R_11
    have X_12 := hide ho12
    clear X_11
    have Y_12 := hide (Y_11.out.chg hc12 (by have := sz1.out; have := sz2.out; have := sz3.out; have := sz4.out; have := sz5.out; have := sz6.out; have := sz7.out; have := sz8.out; have := sz9.out; have := sz10.out; have := sz11.out; omega))
    clear Y_11
    have G_12 := hide (G_11.out.chg hc12 (by have := sz1.out; have := sz2.out; have := sz3.out; have := sz4.out; have := sz5.out; have := sz6.out; have := sz7.out; have := sz8.out; have := sz9.out; have := sz10.out; have := sz11.out; omega))
    clear G_11
    have bb12 := hide (bel_chg bb11.out hc12 bb11.out.size (by have := sz1.out; have := sz2.out; have := sz3.out; have := sz4.out; have := sz5.out; have := sz6.out; have := sz7.out; have := sz8.out; have := sz9.out; have := sz10.out; have := sz11.out; omega))
    clear bb11
    have sz12 := hide hc12.size
    clear hc12 ho12 hs12
    go_wp2_with fail
    refine (l_markUint32S (1 + (z0.length : Int)) z1 _ _ _ _ Y_12.out (by omega) (by omega)).mono ?_
    rintro e w_13 ⟨rfl, hc13, ho13, hs13⟩
    have a0_13 := hide (a0_12.out.chg hc13 (by have := sz1.out; have := sz2.out; have := sz3.out; have := sz4.out; have := sz5.out; have := sz6.out; have := sz7.out; have := sz8.out; have := sz9.out; have := sz10.out; have := sz11.out; have := sz12.out; omega))
    clear a0_12
    have a1_13 := hide (a1_12.out.chg hc13 (by have := sz1.out; have := sz2.out; have := sz3.out; have := sz4.out; have := sz5.out; have := sz6.out; have := sz7.out; have := sz8.out; have := sz9.out; have := sz10.out; have := sz11.out; have := sz12.out; omega))
    clear a1_12
    have R_13 := hide (R_12.out.chg hc13 (by have := sz1.out; have := sz2.out; have := sz3.out; have := sz4.out; have := sz5.out; have := sz6.out; have := sz7.out; have := sz8.out; have := sz9.out; have := sz10.out; have := sz11.out; have := sz12.out; omega))
    clear R_12
    have X_13 := hide (X_12.out.chg hc13 (by have := sz1.out; have := sz2.out; have := sz3.out; have := sz4.out; have := sz5.out; have := sz6.out; have := sz7.out; have := sz8.out; have := sz9.out; have := sz10.out; have := sz11.out; have := sz12.out; omega))
    clear X_12
    have Y_13 := hide ho13
    clear Y_12
    have G_13 := hide (G_12.out.chg hc13 (by have := sz1.out; have := sz2.out; have := sz3.out; have := sz4.out; have := sz5.out; have := sz6.out; have := sz7.out; have := sz8.out; have := sz9.out; have := sz10.out; have := sz11.out; have := sz12.out; omega))
    clear G_12
    have bb13 := hide (bel_chg bb12.out hc13 bb12.out.size (by have := sz1.out; have := sz2.out; have := sz3.out; have := sz4.out; have := sz5.out; have := sz6.out; have := sz7.out; have := sz8.out; have := sz9.out; have := sz10.out; have := sz11.out; have := sz12.out; omega))
    clear bb12
    have sz13 := hide hc13.size
    clear hc13 ho13 hs13
    clear X_13
    clear Y_13
    go_wp2_with fail
    refine (l_eqUint32S _ _ _ _ _ _ _ _ _ _ G_13.out.rd R_13.out.rd hn).mono ?_
    rintro e w_14 ⟨rfl, n14, hw14⟩
    have hb14 := below_of_drewN hw14
    clear hw14
    have a0_14 := hide (a0_13.out.below hb14)
    clear a0_13
    have a1_14 := hide (a1_13.out.below hb14)
    clear a1_13
    have R_14 := hide (R_13.out.below hb14)
    clear R_13
    have G_14 := hide (G_13.out.below hb14)
    clear G_13
    have bb14 := hide (bel_new bb13.out hb14 bb13.out.size)
    clear bb13
    have sz14 := hide hb14.size
    clear hb14
    go_wp2_with fail
    refine (l_markUint32S 1 (mixI z0 z1) _ _ _ _ G_14.out (by omega) (by omega)).mono ?_
    rintro e w_15 ⟨rfl, hc15, ho15, hs15⟩
    have a0_15 := hide (a0_14.out.chg hc15 (by have := sz1.out; have := sz2.out; have := sz3.out; have := sz4.out; have := sz5.out; have := sz6.out; have := sz7.out; have := sz8.out; have := sz9.out; have := sz10.out; have := sz11.out; have := sz12.out; have := sz13.out; have := sz14.out; omega))
    clear a0_14
    have a1_15 := hide (a1_14.out.chg hc15 (by have := sz1.out; have := sz2.out; have := sz3.out; have := sz4.out; have := sz5.out; have := sz6.out; have := sz7.out; have := sz8.out; have := sz9.out; have := sz10.out; have := sz11.out; have := sz12.out; have := sz13.out; have := sz14.out; omega))
    clear a1_14
    have R_15 := hide (R_14.out.chg hc15 (by have := sz1.out; have := sz2.out; have := sz3.out; have := sz4.out; have := sz5.out; have := sz6.out; have := sz7.out; have := sz8.out; have := sz9.out; have := sz10.out; have := sz11.out; have := sz12.out; have := sz13.out; have := sz14.out; omega))
    clear R_14
    have G_15 := hide ho15
    clear G_14
    have bb15 := hide (bel_chg bb14.out hc15 bb14.out.size (by have := sz1.out; have := sz2.out; have := sz3.out; have := sz4.out; have := sz5.out; have := sz6.out; have := sz7.out; have := sz8.out; have := sz9.out; have := sz10.out; have := sz11.out; have := sz12.out; have := sz13.out; have := sz14.out; omega))
    clear bb14
    have sz15 := hide hc15.size
    clear hc15 ho15 hs15
    go_wp2_with fail
    refine (l_heldUint32S 1 (mixI z0 z1).length _ _ _ _ _ G_15.out.rd (by omega) (by omega)).mono ?_
    rintro e w_16 ⟨rfl, n16, hw16⟩
    have hb16 := below_of_drewN hw16
    clear hw16
    have a0_16 := hide (a0_15.out.below hb16)
    clear a0_15
    have a1_16 := hide (a1_15.out.below hb16)
    clear a1_15
    have R_16 := hide (R_15.out.below hb16)
    clear R_15
    have G_16 := hide (G_15.out.below hb16)
    clear G_15
    have bb16 := hide (bel_new bb15.out hb16 bb15.out.size)
    clear bb15
    have sz16 := hide hb16.size
    clear hb16
    go_wp2_with fail
    refine (l_toUint32S _ _ _ _ _ _ a0_16.out (by omega)).mono ?_
    rintro e w_17 ⟨A17, c17, rfl, hb17, ho17⟩
    have a0_17 := hide (a0_16.out.below hb17)
    clear a0_16
    have a1_17 := hide (a1_16.out.below hb17)
    clear a1_16
    have R_17 := hide (R_16.out.below hb17)
    clear R_16
    have G_17 := hide (G_16.out.below hb17)
    clear G_16
    have X_17 := hide ho17
    have bb17 := hide (bel_new bb16.out hb17 bb16.out.size)
    clear bb16
    have sz17 := hide hb17.size
    clear hb17 ho17
    go_wp2_with fail
    refine (l_toUint32S _ _ _ _ _ _ a1_17.out (by omega)).mono ?_
    rintro e w_18 ⟨A18, c18, rfl, hb18, ho18⟩
    have a0_18 := hide (a0_17.out.below hb18)
    clear a0_17
    have a1_18 := hide (a1_17.out.below hb18)
    clear a1_17
    have R_18 := hide (R_17.out.below hb18)
    clear R_17
    have G_18 := hide (G_17.out.below hb18)
    clear G_17
    have X_18 := hide (X_17.out.below hb18)
    clear X_17
    have Y_18 := hide ho18
    have bb18 := hide (bel_new bb17.out hb18 bb17.out.size)
    clear bb17
    have sz18 := hide hb18.size
    clear hb18 ho18
    go_wp2_with fail
    refine (i_MixIn _ _ _ _ _ _ _ _ _ _ _ X_18.out Y_18.out).mono ?_
    rintro e w_19 ⟨A19, c19, rfl, hb19, ho19⟩
    have a0_19 := hide (a0_18.out.below hb19)
    clear a0_18
    have a1_19 := hide (a1_18.out.below hb19)
    clear a1_18
    have R_19 := hide (R_18.out.below hb19)
    clear R_18
    have G_19 := hide (G_18.out.below hb19)
    clear G_18
    have X_19 := hide (X_18.out.below hb19)
    clear X_18
    have Y_19 := hide (Y_18.out.below hb19)
    clear Y_18
    have G2_19 := hide ho19
    have bb19 := hide (bel_new bb18.out hb19 bb18.out.size)
    clear bb18
    have sz19 := hide hb19.size
    clear hb19 ho19
    clear X_19
    clear Y_19
    go_wp2_with fail
    refine (l_eqUint32S _ _ _ _ _ _ _ _ _ _ G2_19.out.rd R_19.out.rd hn).mono ?_
    rintro e w_20 ⟨rfl, n20, hw20⟩
    have hb20 := below_of_drewN hw20
    clear hw20
    have a0_20 := hide (a0_19.out.below hb20)
    clear a0_19
    have a1_20 := hide (a1_19.out.below hb20)
    clear a1_19
    have R_20 := hide (R_19.out.below hb20)
    clear R_19
    have G_20 := hide (G_19.out.below hb20)
    clear G_19
    have G2_20 := hide (G2_19.out.below hb20)
    clear G2_19
    have bb20 := hide (bel_new bb19.out hb20 bb19.out.size)
    clear bb19
    have sz20 := hide hb20.size
    clear hb20
    go_wp2_with fail
    refine (l_heldUint32S 1 (mixI z0 z1).length _ _ _ _ _ G_20.out.rd (by omega) (by omega)).mono ?_
    rintro e w_21 ⟨rfl, n21, hw21⟩
    have hb21 := below_of_drewN hw21
    clear hw21
    have a0_21 := hide (a0_20.out.below hb21)
    clear a0_20
    have a1_21 := hide (a1_20.out.below hb21)
    clear a1_20
    have R_21 := hide (R_20.out.below hb21)
    clear R_20
    have G_21 := hide (G_20.out.below hb21)
    clear G_20
    have G2_21 := hide (G2_20.out.below hb21)
    clear G2_20
    have bb21 := hide (bel_new bb20.out hb21 bb20.out.size)
    clear bb20
    have sz21 := hide hb21.size
    clear hb21
    go_wp2
    go_ret
    exact ⟨rfl, bb21.out⟩
  · by_cases hl2 : (z0.length : Int) ≤ 1048576
    · have hl3 : (1048576 : Int) < z1.length := by omega
      go_enter Try.func8, Try.ntmps8
      go_wp2
      go_ret
      exact ⟨rfl, Below.refl _ _⟩
    · have hl3 : (1048576 : Int) < z0.length := by omega
      go_enter Try.func8, Try.ntmps8
      go_wp2
      go_ret
      exact ⟨rfl, Below.refl _ _⟩

set_option maxRecDepth 100000 in
theorem lifted (os : Os) (started : os.Started) (H : Type) (enc : TypeId × Value → H) :
    ReturnsInHanded {} Try.checked os 8 .any (Rows.fnExactMixInSpec.pre6 enc Try.prog Try.f8 Rows.fnExactMixInRow.domain false) (Rows.fnExactMixInSpec.post enc Try.prog Try.f8 false true false false) := by
  refine returnsInHanded_of_change (C := Try.checked) own started (by kernel_rfl) Try.func8
    (ChangeSpec.witness6 (enc := enc) (C := Try.checked) false ⟨#[], #[.slice none 0 0, .slice none 0 0], []⟩ 8 (by kernel_rfl) (by kernel_rfl) (by kernel_rfl) (by kernel_rfl)) ?_
  intro W base args ds gs before hval0 hW hcnd _
  have hval : ∀ (j : Nat) t v, Try.f8.params[j]? = some t → args[j]? = some v → Value.okWide Try.prog W .any base t v := hval0
  have hW' := hW
  obtain ⟨p, q, hA0, hV, rfl, hfz, hnd⟩ := hW
  have hA : DataW.TrodAll enc Try.prog W 0 (fun _ => true) true Try.f8.params.toList args.toList ds p := hA0
  rw [Try.params8] at hA hval
  obtain ⟨v0, vs0, d0, ds0, p0, q0, hargs, rfl, rfl, h0, r0⟩ := trodAll_cons hA
  obtain ⟨v1, vs1, d1, ds1, p1, q1, rfl, rfl, rfl, h1, r1⟩ := trodAll_cons r0
  obtain ⟨rfl, rfl, rfl⟩ := trodAll_nil r1
  obtain rfl : args = #[v0, v1] := by cases args; simp_all
  obtain ⟨rfl, rfl⟩ := trodVars_none hV
  have k0 := h0
  have lt0 : ∀ x ∈ p0, x.block < W.heap.size := by obtain ⟨m, hm⟩ := k0; exact DataW.trod_lt m _ _ _ hm
  obtain ⟨A0, L0, C0, rfl⟩ := okWide_slice Try.underlying22 (hval 0 22 v0 rfl rfl)
  obtain ⟨fuel0, hf0⟩ := h0
  obtain ⟨a0, cap0, z0, ea0, w0, l0, b0⟩ := rd_ints (v := .slice A0 L0 C0) Try.underlying22 Try.underlying51 (by kernel_rfl) (by simpa [Value.cells] using hf0)
  simp only [Value.slice.injEq] at ea0
  obtain ⟨xa0, ya0, ta0⟩ := ea0
  replace xa0 := xa0.symm
  replace ta0 := ta0.symm
  subst xa0
  subst ta0
  subst ya0
  have k1 := h1
  have lt1 : ∀ x ∈ p1, x.block < W.heap.size := by obtain ⟨m, hm⟩ := k1; exact DataW.trod_lt m _ _ _ hm
  obtain ⟨A1, L1, C1, rfl⟩ := okWide_slice Try.underlying22 (hval 1 22 v1 rfl rfl)
  obtain ⟨fuel1, hf1⟩ := h1
  obtain ⟨a1, cap1, z1, ea1, w1, l1, b1⟩ := rd_ints (v := .slice A1 L1 C1) Try.underlying22 Try.underlying51 (by kernel_rfl) (by simpa [Value.cells] using hf1)
  simp only [Value.slice.injEq] at ea1
  obtain ⟨xa1, ya1, ta1⟩ := ea1
  replace xa1 := xa1.symm
  replace ta1 := ta1.symm
  subst xa1
  subst ta1
  subst ya1
  clear hA0 hval0
  refine (walk a0 cap0 z0 a1 cap1 z1 W w0 l0 b0 w1 l1 b1).mono fun e W' ⟨he, bel⟩ => ?_
  subst he
  exact ⟨_, rfl, _, _, _, [], _, [], hW', trodAll_mk1 (shut_bool Try.underlying4 _), (trodAll_cons_mk (Below.trod laidOut (by kernel_rfl) (of_decide_eq_true (by kernel_rfl)) k0 bel lt0) (trodAll_cons_mk (Below.trod laidOut (by kernel_rfl) (of_decide_eq_true (by kernel_rfl)) k1 bel lt1) trodAll_mk0)), rfl, bel.frame _, fun h => by cases h⟩

theorem over : Rows.fnExactMixInRow.holds Try.pinned (OpenSpec.ofChange Rows.fnExactMixInSpec) :=
  OpenClaim.holds_of_wide 8 Try.f8 rfl rfl rfl rfl rfl rfl rfl ⟨rfl, rfl, rfl, rfl, rfl⟩ rfl rfl rfl rfl rfl (by kernel_rfl) Try.func8 (by kernel_rfl)
    (of_decide_eq_true (by kernel_rfl)) (by unfold Func.isWrapper; first | (rw [if_pos (by decide +kernel)]; kernel_rfl) | (rw [if_neg (by decide +kernel)]; exact ⟨rfl, rfl⟩))
    (fun os started H enc _ => lifted os started H enc)

theorem proved : Rows.FnExactMixInSaid := over
#print axioms proved
end Go.Proofs.Yticpedlcfakaeaa.fnExactMixIn

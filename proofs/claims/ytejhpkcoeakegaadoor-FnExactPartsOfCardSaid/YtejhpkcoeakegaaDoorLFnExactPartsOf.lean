/-
  The law 'FnExactPartsOf' returns true at every input: the tied card 'Rows.FnExactPartsOfCardSaid'. Its condition is the card's own: the package variables that the row lists start as the program's text lays them (the given tie, over the pruned copy of the project). The walk takes the functions that the law calls by their contracts; the frame about it opens the arguments and hands them back as they were.
-/
import Derived.Test.YtejhpkcoeakegaaDoorParts
import Derived.Test.YtejhpkcoeakegaaDoorLibS
import Derived.Test.YtejhpkcoeakegaaDoorLibM
import Derived.Test.YtejhpkcoeakegaaDoorRows
import Derived.WalkKit
import Derived.ProofKit
import Derived.OpenShut
import Derived.ShutString
import Derived.ChangeOld
import Derived.Below
import Derived.LaidMore
import Derived.Stop.LaidErr
import Derived.Stop.Joined
import Derived.Lib.LaidTab
import Derived.Lay
import Derived.Handed
import Derived.SevenTiedAt
import Derived.Test.YtejhpkcoeakegaaDoorTie
import Derived.Test.YtejhpkcoeakegaaDoorCards
namespace Go.Proofs.YtejhpkcoeakegaaDoor.fnExactPartsOf
open Go.ChangeShapes Go.WideShapes Go.ChangeAt Go.RowKit
open Go.ChangeMaps (open_string shut_string)
set_option linter.unusedVariables false

theorem own : ownKnob Tryd.prog.godebug = none := by kernel_rfl
theorem partsL_len (s : ByteArray) : (partsL s).length ≤ 12 := by
  unfold partsL
  split
  · rename_i h
    unfold partsOk at h
    simp only [Bool.and_eq_true, decide_eq_true_eq] at h
    exact h.2
  · simp

set_option maxHeartbeats 2000000 in
theorem walk (a0 : ByteArray) (w : World) (w0 : a0.size ≤ maxLen) (hlaid : ∃ m, World.cell? w ⟨1, 0, none⟩ = some (.int .i64 m)) :
    Calls Tryd.prog 5 #[.string a0] w fun e w' => e = .returned (.bool true) ∧ Below w.heap.size w w' := by
  have ws : a0.size ≤ 9223372036854775807 := w0
  have hm := partsL_len a0
  have hn : (partsL a0).length ≤ 9223372036854775807 := by omega
  have HM := hide hlaid
  have hlt1 := hide (show 1 < w.heap.size from by obtain ⟨m, h⟩ := hlaid; exact cell_lt h)
  clear hlaid w0
  by_cases hbig : 1048576 < (a0.size : Int)
  · go_enter Tryd.func5, Tryd.ntmps5
    go_wp2
    go_ret
    exact ⟨rfl, Below.refl _ _⟩
  go_enter Tryd.func5, Tryd.ntmps5
  go_wp2_with fail
  refine (s_PartsOf a0 ws _).mono ?_
  rintro e w_1 ⟨A1, c1, rfl, hb1, ho1⟩
  have R_1 := hide ho1
  have bb1 := hide hb1
  have sz1 := hide hb1.size
  clear hb1 ho1
  go_wp2_with fail
  refine (i_PartsOf a0 ws _ (HM.out.imp fun m h => ((bcell bb1.out).1 _ _ hlt1.out).trans h)).mono ?_
  rintro e w_2 ⟨A2, c2, rfl, hb2, ho2⟩
  have R_2 := hide (R_1.out.below hb2)
  clear R_1
  have G_2 := hide ho2
  have bb2 := hide (bel_new bb1.out hb2 bb1.out.size)
  clear bb1
  have sz2 := hide hb2.size
  clear hb2 ho2
  go_wp2_with fail
  refine (l_eqStringS _ _ _ _ _ _ _ _ _ _ G_2.out.rd R_2.out.rd hn).mono ?_
  rintro e w_3 ⟨rfl, n3, hw3⟩
  have hb3 := below_of_drewN hw3
  clear hw3
  have R_3 := hide (R_2.out.below hb3)
  clear R_2
  have G_3 := hide (G_2.out.below hb3)
  clear G_2
  have bb3 := hide (bel_new bb2.out hb3 bb2.out.size)
  clear bb2
  have sz3 := hide hb3.size
  clear hb3
  go_wp2_with fail
  refine (l_markStringS 1 (partsL a0) _ _ _ _ G_3.out (by omega) (by omega)).mono ?_
  rintro e w_4 ⟨rfl, hc4, ho4⟩
  have R_4 := hide (R_3.out.chg hc4 (by have := sz1.out; have := sz2.out; have := sz3.out; omega))
  clear R_3
  have G_4 := hide ho4
  clear G_3
  have bb4 := hide (bel_chg bb3.out hc4 bb3.out.size (by have := sz1.out; have := sz2.out; have := sz3.out; omega))
  clear bb3
  have sz4 := hide hc4.size
  clear hc4 ho4
  go_wp2_with fail
  refine (l_heldStringS 1 (partsL a0).length _ _ _ _ _ G_4.out.rd (by omega) (by omega)).mono ?_
  rintro e w_5 ⟨rfl, hb5⟩
  have R_5 := hide (R_4.out.below hb5)
  clear R_4
  have G_5 := hide (G_4.out.below hb5)
  clear G_4
  have bb5 := hide (bel_new bb4.out hb5 bb4.out.size)
  clear bb4
  have sz5 := hide hb5.size
  clear hb5
  go_wp2_with fail
  refine (i_PartsOf a0 ws _ (HM.out.imp fun m h => ((bcell bb5.out).1 _ _ hlt1.out).trans h)).mono ?_
  rintro e w_6 ⟨A6, c6, rfl, hb6, ho6⟩
  have R_6 := hide (R_5.out.below hb6)
  clear R_5
  have G_6 := hide (G_5.out.below hb6)
  clear G_5
  have G2_6 := hide ho6
  have bb6 := hide (bel_new bb5.out hb6 bb5.out.size)
  clear bb5
  have sz6 := hide hb6.size
  clear hb6 ho6
  go_wp2_with fail
  refine (l_eqStringS _ _ _ _ _ _ _ _ _ _ G2_6.out.rd R_6.out.rd hn).mono ?_
  rintro e w_7 ⟨rfl, n7, hw7⟩
  have hb7 := below_of_drewN hw7
  clear hw7
  have R_7 := hide (R_6.out.below hb7)
  clear R_6
  have G_7 := hide (G_6.out.below hb7)
  clear G_6
  have G2_7 := hide (G2_6.out.below hb7)
  clear G2_6
  have bb7 := hide (bel_new bb6.out hb7 bb6.out.size)
  clear bb6
  have sz7 := hide hb7.size
  clear hb7
  go_wp2_with fail
  refine (l_heldStringS 1 (partsL a0).length _ _ _ _ _ G_7.out.rd (by omega) (by omega)).mono ?_
  rintro e w_8 ⟨rfl, hb8⟩
  have R_8 := hide (R_7.out.below hb8)
  clear R_7
  have G_8 := hide (G_7.out.below hb8)
  clear G_7
  have G2_8 := hide (G2_7.out.below hb8)
  clear G2_7
  have bb8 := hide (bel_new bb7.out hb8 bb7.out.size)
  clear bb7
  have sz8 := hide hb8.size
  clear hb8
  go_wp2
  go_ret
  exact ⟨rfl, bb8.out⟩

theorem of_shape {W : World} (hS : W.ShapedOpen Tryd.prog) : ∃ m, World.cell? W ⟨1, 0, none⟩ = some (.int .i64 m) := by
  exact Tryd.laysM146.s1_3 W hS
set_option maxRecDepth 100000 in
theorem body (H : Type) (enc : TypeId × Value → H) (W : World) (base : Nat) (args : Array Value) (ds gs : List (DataW H)) (before : List MemPlace)
    (hval0 : ∀ (j : Nat) t v, Tryd.f5.params[j]? = some t → args[j]? = some v → Value.okWide Tryd.prog W .any base t v)
    (hW : DataW.Whole enc Tryd.prog Tryd.f5.params.toList Rows.fnExactPartsOfSpec.vars false W args.toList ds gs before) (hSh : W.ShapedOpen Tryd.prog) :
    Calls Tryd.prog 5 args W fun e W' => ∃ v, e = .returned v ∧ Rows.fnExactPartsOfSpec.post enc Tryd.prog Tryd.f5 false true false false W args v W' := by
  have hval : ∀ (j : Nat) t v, Tryd.f5.params[j]? = some t → args[j]? = some v → Value.okWide Tryd.prog W .any base t v := hval0
  have hW' := hW
  obtain ⟨p, q, hA0, hV, rfl, hfz, hnd⟩ := hW
  have hA : DataW.TrodAll enc Tryd.prog W 0 (fun _ => true) true Tryd.f5.params.toList args.toList ds p := hA0
  rw [Tryd.params5] at hA hval
  obtain ⟨v0, vs0, d0, ds0, p0, q0, hargs, rfl, rfl, h0, r0⟩ := trodAll_cons hA
  obtain ⟨rfl, rfl, rfl⟩ := trodAll_nil r0
  obtain rfl : args = #[v0] := by cases args; simp_all
  obtain ⟨rfl, rfl⟩ := trodVars_none hV
  obtain ⟨a0, rfl, rfl, rfl, w0⟩ := open_string Tryd.underlying9 (hval 0 9 v0 rfl rfl) h0
  clear hA0 hval0
  refine (walk a0 W w0 (of_shape hSh)).mono fun e W' ⟨he, bel⟩ => ?_
  subst he
  exact ⟨_, rfl, _, _, _, [], _, [], hW', trodAll_mk1 (shut_bool Tryd.underlying4 _), (trodAll_cons_mk (shut_string Tryd.underlying9 w0) trodAll_mk0), rfl, bel.frame _, fun h => by cases h⟩

set_option maxRecDepth 100000 in
theorem lifted (os : Os) (started : os.Started) (H : Type) (enc : TypeId × Value → H) :
    ReturnsInHanded {} Tryd.checked os 5 .any (fun w args => (Rows.fnExactPartsOfSpec.pre enc Tryd.prog Tryd.f5 [] false w args ∧ laidMetH Tryd.prog Rows.fnExactPartsOfRow.laid w) ∧ sizedMet enc Tryd.prog Tryd.f5 (OpenSpec.ofChange Rows.fnExactPartsOfSpec) false w args) (Rows.fnExactPartsOfSpec.post enc Tryd.prog Tryd.f5 false true false false) := by
  refine returnsInHanded_of_calls (C := Tryd.checked) own started (by kernel_rfl)
    (ChangeSpec.witness_shaped (enc := enc) (C := Tryd.checked) (os := os) (X := fun w _ => laidMetH Tryd.prog Rows.fnExactPartsOfRow.laid w) false (World.laidAll Tryd.prog os Rows.fnExactPartsOfRow.laid) #[.string ByteArray.empty] 8 (World.laidAll_os _ _ _)
      (World.shaped_of_ZipB (by kernel_rfl) (by kernel_rfl)) (by kernel_rfl) (by kernel_rfl) (by kernel_rfl)
      (by rw [MakeChecks.laidMetH_plain _ _ _ (by kernel_rfl)]; exact laidMet_laidAll _ (by kernel_rfl) (by kernel_rfl))) ?_
  intro w tape i _ hsh _ hok hpre _
  obtain ⟨_, _, _, fn', hfn', _, _, _, _, hval⟩ := hok
  have e : fn' = Tryd.f5 := Option.some.inj (hfn'.symm.trans Tryd.func5)
  subst e
  obtain ⟨⟨⟨ds, gs, before, hw, _⟩, _⟩, _⟩ := hpre
  have hw' := DataW.Whole.of_heap (w' := w.forCall tape i) (by rfl) hw
  refine (body H enc (w.forCall tape i) w.heap.size i.args ds gs before hval hw' hsh).mono fun e W' ⟨v, he, hp⟩ => ?_
  subst he
  exact ChangeSpec.post_blind hp

theorem over : Rows.fnExactPartsOfRow.holds Tryd.pinned (OpenSpec.ofChange Rows.fnExactPartsOfSpec) :=
  OpenClaim.holds_of_wide 5 Tryd.f5 rfl rfl rfl rfl rfl rfl rfl ⟨rfl, rfl, rfl, rfl, rfl⟩ rfl rfl rfl rfl rfl (by kernel_rfl) Tryd.func5 (by kernel_rfl)
    (of_decide_eq_true (by kernel_rfl)) (by unfold Func.isWrapper; first | (rw [if_pos (by decide +kernel)]; kernel_rfl) | (rw [if_neg (by decide +kernel)]; exact ⟨rfl, rfl⟩))
    (fun os started H enc _ => lifted os started H enc)

theorem proved : Rows.FnExactPartsOfCardSaid :=
  Claim7.holds_tied_plain_at .later [] [.data, .pinned] true (true, "56a504b225666d245d79aae5f3167b93368768cb7226b90758e4161cccb440f8") false
    over (fun _ h => by cases h) (by kernel_rfl) (fun _ h => by cases h) fnExactPartsOf_row_tie rfl ⟨rfl, rfl⟩ (by kernel_rfl) rfl
    (fun f fn hf hfn => by
      obtain rfl : f = 5 := Option.some.inj ((show Tryd.prog.funcNamed "loop.example/g00074/laws.FnExactPartsOf" = some 5 by kernel_rfl).symm.trans hf) |>.symm
      obtain rfl : fn = Tryd.f5 := (Option.some.inj (Tryd.func5.symm.trans hfn)).symm
      exact ⟨by kernel_rfl, fun j t ht => by
        rw [Tryd.params5] at ht
        have hm : t ∈ [9] := by simpa using Array.mem_of_getElem? ht
        have hall : ([9].all fun u => !Tryd.prog.wantsStandIn u) = true := by kernel_rfl
        exact (show Tryd.prog.wantsStandIn t = false by simpa using List.all_eq_true.1 hall t hm)⟩)
    (by kernel_rfl)
#print axioms proved
end Go.Proofs.YtejhpkcoeakegaaDoor.fnExactPartsOf

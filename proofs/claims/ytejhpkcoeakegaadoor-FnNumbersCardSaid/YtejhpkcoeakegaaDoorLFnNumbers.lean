/-
  The law 'FnNumbers' returns true at every input: the tied card 'Rows.FnNumbersCardSaid'. Its condition is the card's own: the package variables that the row lists start as the program's text lays them (the given tie, over the pruned copy of the project). The walk takes the functions that the law calls by their contracts; the frame about it opens the arguments and hands them back as they were.
-/
import Derived.Test.YtejhpkcoeakegaaDoorNumbers
import Derived.Test.YtejhpkcoeakegaaDoorOpen
import Derived.Test.YtejhpkcoeakegaaDoorRows
import Derived.WalkKit
import Derived.ProofKit
import Derived.OpenShut
import Derived.ShutString
import Derived.ChangeOld
import Derived.Below
import Derived.LaidMore
import Derived.Stop.LaidErr
import Derived.Stop.Joined
import Derived.Lib.LaidTab
import Derived.SevenTiedAt
import Derived.Test.YtejhpkcoeakegaaDoorTie
import Derived.Test.YtejhpkcoeakegaaDoorCards
namespace Go.Proofs.YtejhpkcoeakegaaDoor.fnNumbers
open Go.Joins (open_agg2 open_agg3)
open Go.ChangeShapes Go.WideShapes Go.ChangeAt Go.RowKit
open Go.ChangeMaps (open_string shut_string)
set_option linter.unusedVariables false

theorem own : ownKnob Tryd.prog.godebug = none := by kernel_rfl
theorem laidOut : laidOutB Tryd.prog = true := by kernel_rfl
/-- The number written, read back, and read with a nought ahead. -/
theorem num_facts (q : Int) (h0 : 0 ≤ q) (h1 : q ≤ 999999999999999) : ∃ s, dec q = s ∧ 0 < s.size ∧ s.size ≤ 15 ∧
    (∀ w, Lib.TabIs Tryd.prog w "internal/strconv.uint64pow10" .u64 Lib.pow10Tab → Calls Tryd.prog 8 #[.string s] w fun e w' => e = .returned (.tuple #[.int .i64 q, .bool true]) ∧ Below w.heap.size w w') ∧
    (∀ w, Lib.TabIs Tryd.prog w "internal/strconv.uint64pow10" .u64 Lib.pow10Tab → Calls Tryd.prog 8 #[.string ((⟨#[48]⟩ : ByteArray) ++ s)] w fun e w' => e = .returned (.tuple #[.int .i64 0, .bool false]) ∧ Below w.heap.size w w') := by
  obtain ⟨m, rfl⟩ := Int.eq_ofNat_of_zero_le h0
  have hm : m < 1000000000000000 := by omega
  have h2 : (dec (m : Int)).size ≤ 15 := by rw [dec_size]; exact itoa_len m hm
  have h3 : (⟨#[48]⟩ : ByteArray).size = 1 := rfl
  refine ⟨_, rfl, dec_size_pos m, h2, fun w ht => ?_, fun w ht => ?_⟩
  · have := i_ReadDecimal (dec (m : Int)) (by omega) w ht
    rw [(rd_dec m hm).1, (rd_dec m hm).2] at this
    exact this
  · have := i_ReadDecimal ((⟨#[48]⟩ : ByteArray) ++ dec (m : Int)) (by rw [ByteArray.size_append]; omega) w ht
    rw [rd_nought m, rd_not (rd_nought m)] at this
    exact this

set_option maxHeartbeats 2000000 in
theorem walk (a0 : Option Addr) (cap0 : Nat) (z0 : List Int) (w : World) (w0 : Rd w 0 w.heap.size a0 (ints .u8 z0)) (l0 : z0.length ≤ cap0 ∧ cap0 ≤ maxLen) (b0 : ∀ n ∈ z0, (Lit.int .u8 n).wf = true) (hlaid : Lib.TabIs Tryd.prog w "internal/strconv.uint64pow10" .u64 Lib.pow10Tab) :
    Calls Tryd.prog 4 #[.slice a0 z0.length cap0] w fun e w' => e = .returned (.bool true) ∧ Below w.heap.size w w' := by
  have hb : ∀ b ∈ z0, 0 ≤ b ∧ b ≤ 255 := fun x hx => by
    have := b0 x hx
    simpa [Lit.wf, IntKind.min, IntKind.max, IntKind.signed, IntKind.bits] using this
  have HB := hide hb
  have H1 := hide w0
  have HT := hide hlaid
  clear w0 b0 l0 hb hlaid
  by_cases hbig : 1048576 < z0.length
  · go_enter Tryd.func4, Tryd.ntmps4
    go_wp2_with (go_at_call 9; refine (l_big_yes z0 a0 cap0 hbig _).mono ?_; rintro e w1 ⟨rfl, rfl⟩)
    go_ret
    exact ⟨rfl, Below.refl _ _⟩
  have hn : z0.length ≤ 1048576 := by omega
  go_enter Tryd.func4, Tryd.ntmps4
  go_wp2_with (go_at_call 9; refine (l_big_no z0 a0 cap0 hn _).mono ?_; rintro e w1 ⟨rfl, rfl⟩)
  refine (s_DrawDecimal z0 a0 cap0 _ _ _ H1.out HB.out hn).mono ?_
  rintro e w1 ⟨d, rfl, hb1⟩
  have b1 := hide hb1
  have T1 := hide (Lib.tabBelow_of_tabIs HT.out w1 hb1)
  clear hb1 hbig hn
  have hd : d < 0 ∨ (0 ≤ d ∧ 999999999999999 < d) ∨ (0 ≤ d ∧ d ≤ 999999999999999) := by omega
  rcases hd with hd | ⟨hd0, hd⟩ | ⟨h0, h1⟩
  · obtain ⟨s, hs, s0, s15, C1, C2⟩ := num_facts 1234567890 (by decide) (by decide)
    have CD := fun W h => i_Decimal 1234567890 (by omega) (by omega) W h
    rw [hs] at CD
    replace CD := hide CD
    replace C1 := hide C1
    replace C2 := hide C2
    clear hs
    have s0' : 0 < (s.size : Int) := by omega
    have gs : ¬ 9223372036854775807 < (⟨#[48]⟩ : ByteArray).size + s.size := by have h3 : (⟨#[48]⟩ : ByteArray).size = 1 := rfl; omega
    go_wp2_with fail
    refine (CD.out _ T1.out).mono ?_
    rintro e w2 ⟨rfl, hb2⟩
    have T2 := hide (Lib.tabBelow_of_tabIs T1.out w2 hb2)
    have b2 := hide (bel_new b1.out hb2 b1.out.size)
    clear hb2
    go_wp2_with fail
    refine (C1.out _ T2.out).mono ?_
    rintro e w3 ⟨rfl, hb3⟩
    have T3 := hide (Lib.tabBelow_of_tabIs T2.out w3 hb3)
    have b3 := hide (bel_new b2.out hb3 b2.out.size)
    clear hb3
    go_wp2_with fail
    refine (C2.out _ T3.out).mono ?_
    rintro e w4 ⟨rfl, hb4⟩
    have b4 := hide (bel_new b3.out hb4 b3.out.size)
    clear hb4
    go_wp2
    go_ret
    exact ⟨rfl, b4.out⟩
  · obtain ⟨s, hs, s0, s15, C1, C2⟩ := num_facts 1234567890 (by decide) (by decide)
    have CD := fun W h => i_Decimal 1234567890 (by omega) (by omega) W h
    rw [hs] at CD
    replace CD := hide CD
    replace C1 := hide C1
    replace C2 := hide C2
    clear hs
    have s0' : 0 < (s.size : Int) := by omega
    have gs : ¬ 9223372036854775807 < (⟨#[48]⟩ : ByteArray).size + s.size := by have h3 : (⟨#[48]⟩ : ByteArray).size = 1 := rfl; omega
    go_wp2_with fail
    refine (CD.out _ T1.out).mono ?_
    rintro e w2 ⟨rfl, hb2⟩
    have T2 := hide (Lib.tabBelow_of_tabIs T1.out w2 hb2)
    have b2 := hide (bel_new b1.out hb2 b1.out.size)
    clear hb2
    go_wp2_with fail
    refine (C1.out _ T2.out).mono ?_
    rintro e w3 ⟨rfl, hb3⟩
    have T3 := hide (Lib.tabBelow_of_tabIs T2.out w3 hb3)
    have b3 := hide (bel_new b2.out hb3 b2.out.size)
    clear hb3
    go_wp2_with fail
    refine (C2.out _ T3.out).mono ?_
    rintro e w4 ⟨rfl, hb4⟩
    have b4 := hide (bel_new b3.out hb4 b3.out.size)
    clear hb4
    go_wp2
    go_ret
    exact ⟨rfl, b4.out⟩
  · obtain ⟨s, hs, s0, s15, C1, C2⟩ := num_facts d h0 h1
    have CD := fun W h => i_Decimal d (by omega) (by omega) W h
    rw [hs] at CD
    replace CD := hide CD
    replace C1 := hide C1
    replace C2 := hide C2
    clear hs
    have s0' : 0 < (s.size : Int) := by omega
    have gs : ¬ 9223372036854775807 < (⟨#[48]⟩ : ByteArray).size + s.size := by have h3 : (⟨#[48]⟩ : ByteArray).size = 1 := rfl; omega
    go_wp2_with fail
    refine (CD.out _ T1.out).mono ?_
    rintro e w2 ⟨rfl, hb2⟩
    have T2 := hide (Lib.tabBelow_of_tabIs T1.out w2 hb2)
    have b2 := hide (bel_new b1.out hb2 b1.out.size)
    clear hb2
    go_wp2_with fail
    refine (C1.out _ T2.out).mono ?_
    rintro e w3 ⟨rfl, hb3⟩
    have T3 := hide (Lib.tabBelow_of_tabIs T2.out w3 hb3)
    have b3 := hide (bel_new b2.out hb3 b2.out.size)
    clear hb3
    go_wp2_with fail
    refine (C2.out _ T3.out).mono ?_
    rintro e w4 ⟨rfl, hb4⟩
    have b4 := hide (bel_new b3.out hb4 b3.out.size)
    clear hb4
    go_wp2
    go_ret
    exact ⟨rfl, b4.out⟩

theorem door_met (os : Os) (args : Array Value) : laidMetH Tryd.prog Rows.fnNumbersRow.laid ((World.doorLaid Tryd.prog 400 os).forCall (fun _ _ => 0) ⟨#[], args, []⟩).memory :=
  laidMetH_of_parts3 (fuel := 8) (laidMet_of_run' 8 (by kernel_rfl) (by kernel_rfl)) (by kernel_rfl) (by kernel_rfl)
theorem of_laid {W : World} (hL0 : laidMetH Tryd.prog Rows.fnNumbersRow.laid W) : Lib.TabIs Tryd.prog W "internal/strconv.uint64pow10" .u64 Lib.pow10Tab := by
  rw [MakeChecks.laidMetH_plain _ _ _ (by kernel_rfl)] at hL0
  have hL : laidMet Tryd.prog [("math/bits.deBruijn32tab", Rows.laid_math_bits_deBruijn32tab), ("math/bits.deBruijn64tab", Rows.laid_math_bits_deBruijn64tab), ("internal/strconv.uint64pow10", Rows.laid_internal_strconv_uint64pow10)] W := hL0
  have h3 : laidMet Tryd.prog [("internal/strconv.uint64pow10", Lib.tabData .u64 Lib.pow10Tab)] W := laidMet.tail (laidMet.tail hL)
  exact Lib.tabIs_of_head (show Tryd.prog.globalNamed "internal/strconv.uint64pow10" = some 0 by kernel_rfl) (show (Tryd.prog.globals[0]?).map (·.type) = some 86 by kernel_rfl) Tryd.underlying86 Tryd.underlying75 (by kernel_rfl) (by kernel_rfl) h3
set_option maxRecDepth 100000 in
theorem lifted (os : Os) (started : os.Started) (H : Type) (enc : TypeId × Value → H) :
    ReturnsInHanded {} Tryd.checked os 4 .any (fun w args => (Rows.fnNumbersSpec.pre enc Tryd.prog Tryd.f4 [] false w args ∧ laidMetH Tryd.prog Rows.fnNumbersRow.laid w) ∧ sizedMet enc Tryd.prog Tryd.f4 (OpenSpec.ofChange Rows.fnNumbersSpec) false w args) (Rows.fnNumbersSpec.post enc Tryd.prog Tryd.f4 false true false false) := by
  refine returnsInHanded_of_change_and (C := Tryd.checked) (X := fun w _ => laidMetH Tryd.prog Rows.fnNumbersRow.laid w) (fun _ _ _ hh h => h.of_heap hh) own started (by kernel_rfl) Tryd.func4
    (ChangeSpec.witness_shaped (enc := enc) (C := Tryd.checked) (os := os) (X := fun w _ => laidMetH Tryd.prog Rows.fnNumbersRow.laid w) false (World.doorLaid Tryd.prog 400 os) #[.slice none 0 0] 8 rfl (World.shaped_of_RefB (by kernel_rfl) (by kernel_rfl)) (by kernel_rfl) (by kernel_rfl) (by kernel_rfl) (door_met os _)) ?_
  intro W base args ds gs before hval0 hW _ _ hL _
  have hval : ∀ (j : Nat) t v, Tryd.f4.params[j]? = some t → args[j]? = some v → Value.okWide Tryd.prog W .any base t v := hval0
  have hW' := hW
  obtain ⟨p, q, hA0, hV, rfl, hfz, hnd⟩ := hW
  have hA : DataW.TrodAll enc Tryd.prog W 0 (fun _ => true) true Tryd.f4.params.toList args.toList ds p := hA0
  rw [Tryd.params4] at hA hval
  obtain ⟨v0, vs0, d0, ds0, p0, q0, hargs, rfl, rfl, h0, r0⟩ := trodAll_cons hA
  obtain ⟨rfl, rfl, rfl⟩ := trodAll_nil r0
  obtain rfl : args = #[v0] := by cases args; simp_all
  obtain ⟨rfl, rfl⟩ := trodVars_none hV
  have k0 := h0
  have lt0 : ∀ x ∈ p0, x.block < W.heap.size := by obtain ⟨m, hm⟩ := k0; exact DataW.trod_lt m _ _ _ hm
  obtain ⟨A0, L0, C0, rfl⟩ := okWide_slice Tryd.underlying25 (hval 0 25 v0 rfl rfl)
  obtain ⟨fuel0, hf0⟩ := h0
  obtain ⟨a0, cap0, z0, ea0, w0, l0, b0⟩ := rd_ints (v := .slice A0 L0 C0) Tryd.underlying25 Tryd.underlying5 (by kernel_rfl) (by simpa [Value.cells] using hf0)
  simp only [Value.slice.injEq] at ea0
  obtain ⟨xa0, ya0, ta0⟩ := ea0
  replace xa0 := xa0.symm
  replace ta0 := ta0.symm
  subst xa0
  subst ta0
  subst ya0
  clear hA0 hval0
  refine (walk a0 cap0 z0 W w0 l0 b0 (of_laid hL)).mono fun e W' ⟨he, bel⟩ => ?_
  subst he
  exact ⟨_, rfl, _, _, _, [], _, [], hW', trodAll_mk1 (shut_bool Tryd.underlying4 _), (trodAll_cons_mk (Below.trod laidOut (by kernel_rfl) (of_decide_eq_true (by kernel_rfl)) k0 bel lt0) trodAll_mk0), rfl, bel.frame _, fun h => by cases h⟩

theorem over : Rows.fnNumbersRow.holds Tryd.pinned (OpenSpec.ofChange Rows.fnNumbersSpec) :=
  OpenClaim.holds_of_wide 4 Tryd.f4 rfl rfl rfl rfl rfl rfl rfl ⟨rfl, rfl, rfl, rfl, rfl⟩ rfl rfl rfl rfl rfl (by kernel_rfl) Tryd.func4 (by kernel_rfl)
    (of_decide_eq_true (by kernel_rfl)) (by unfold Func.isWrapper; first | (rw [if_pos (by decide +kernel)]; kernel_rfl) | (rw [if_neg (by decide +kernel)]; exact ⟨rfl, rfl⟩))
    (fun os started H enc _ => lifted os started H enc)

theorem proved : Rows.FnNumbersCardSaid :=
  Claim7.holds_tied_plain_at .later [] [.data, .data, .data] true (true, "56a504b225666d245d79aae5f3167b93368768cb7226b90758e4161cccb440f8") false
    over (fun _ h => by cases h) (by kernel_rfl) (fun _ h => by cases h) fnNumbers_row_tie rfl ⟨rfl, rfl⟩ (by kernel_rfl) rfl
    (fun f fn hf hfn => by
      obtain rfl : f = 4 := Option.some.inj ((show Tryd.prog.funcNamed "loop.example/g00074/laws.FnNumbers" = some 4 by kernel_rfl).symm.trans hf) |>.symm
      obtain rfl : fn = Tryd.f4 := (Option.some.inj (Tryd.func4.symm.trans hfn)).symm
      exact ⟨by kernel_rfl, fun j t ht => by
        rw [Tryd.params4] at ht
        have hm : t ∈ [25] := by simpa using Array.mem_of_getElem? ht
        have hall : ([25].all fun u => !Tryd.prog.wantsStandIn u) = true := by kernel_rfl
        exact (show Tryd.prog.wantsStandIn t = false by simpa using List.all_eq_true.1 hall t hm)⟩)
    (by kernel_rfl)
#print axioms proved
end Go.Proofs.YtejhpkcoeakegaaDoor.fnNumbers

/-
  The walks of TextOf, the program's and the reference's, and of strings.Builder's WriteString.
-/
import Derived.Test.YtejhpkcoeakegaaDoorApp
import Derived.Test.YtejhpkcoeakegaaDoorWord
import Derived.Test.YtejhpkcoeakegaaDoorShelf
import Derived.Laws.IdiomStrings
import Derived.Lib.Builder
import Derived.Lib.UnsafeStr
import Derived.Lib.AppendStr
import Derived.Laws.Externs
import Derived.Outline
namespace Go.Proofs.YtejhpkcoeakegaaDoor
set_option linter.unusedVariables false
open Go.RowKit

/-- The bytes of a word, and of a list of words. -/
def word4 (x : Int) : List Int := [x / 16777216, x / 65536 % 256, x / 256 % 256, x % 256]
def bytesOf (zs : List Int) : List Int := zs.flatMap word4
def textOf (zs : List Int) : ByteArray := strOfNums (bytesOf zs)
theorem bytesOf_len (zs : List Int) : (bytesOf zs).length = 4 * zs.length := by
  unfold bytesOf
  induction zs with
  | nil => rfl
  | cons a l ih => rw [List.flatMap_cons, List.length_append, ih, List.length_cons]; simp [word4]; omega
theorem textOf_size (zs : List Int) : (textOf zs).size = 4 * zs.length := by rw [textOf, strOfNums_size, bytesOf_len]
theorem bytesOf_take (zs : List Int) (j : Nat) (h : j < zs.length) : bytesOf (zs.take j) ++ word4 zs[j] = bytesOf (zs.take (j + 1)) := by
  rw [List.take_succ_eq_append_getElem h, bytesOf, bytesOf, List.flatMap_append]
  simp
theorem word4_bd (x : Int) (h0 : 0 ≤ x) (h1 : x ≤ 4294967295) : ∀ b ∈ word4 x, 0 ≤ b ∧ b < 256 := by
  intro b hb
  simp only [word4, List.mem_cons, List.not_mem_nil, or_false] at hb
  omega
theorem str_cells (bs : List Int) (h : ∀ b ∈ bs, 0 ≤ b ∧ b < 256) : Lib.strCells (strOfNums bs) = ints .u8 bs := by
  unfold Lib.strCells ints
  rw [strOfNums_data, List.map_map]
  refine List.map_congr_left fun b hb => ?_
  obtain ⟨h0, h1⟩ := h b hb
  show Value.int .u8 _ = Value.int .u8 b
  congr 1
  show ((UInt8.ofNat b.toNat).toNat : Int) = b
  rw [UInt8.toNat_ofNat_of_lt' (show b.toNat < 256 by omega)]
  omega
/-- TextOf. -/
def textOk (n : Nat) : Bool := decide (n ≤ 1000)
def textI (zs : List Int) : ByteArray := if textOk zs.length then textOf zs else ⟨#[]⟩
def wordsOk (zs : List Int) : Prop := ∀ x ∈ zs, 0 ≤ x ∧ x ≤ 4294967295

/-- '[]byte(s)', of any text: some capacity, some world; the cells are the text's bytes. -/
theorem wpList_bytes {P : Program} {w : World} {ops : Array Oper} {rest : List Oper} {o : Oper} {a : Act} {Q : Exit → Act → World → Prop} (hgd : o.guard = none) (src dst e : TypeId) (x : Operand) (ho : o.op = .convert src dst x)
    (s : ByteArray) (hx : a.eval x = .string s) (hs : P.underlying src = some .string) (hd : P.underlying dst = some (.slice e)) (he : P.underlying e = some (.int .u8))
    (h : ∀ c w', Rd w' w.heap.size (w.heap.size + 1) (some ⟨w.heap.size, 0, none⟩) (Lib.strCells s) → Below w.heap.size w w' → wpList P ops Q rest (a.put o.dst (.slice (some ⟨w.heap.size, 0, none⟩) s.size c)) w') : wpList P ops Q (o :: rest) a w := by
  refine wpList_plain hgd fun K hK => ?_
  unfold Oper.wp execOp
  simp only [ho, hx, Sem.run_bind, run_bytes_of_string w src dst e s hs hd he, Result.andThen_ok, Sem.run_pure]
  refine hK _ _ (h _ _ ?_ ?_)
  · intro _
    refine ⟨_, rfl, Nat.le_refl _, by simp, fun j u hu => ?_⟩
    have e1 : (⟨w.heap.size, 0, none⟩ : Addr).add j = ⟨w.heap.size, j, none⟩ := by unfold Addr.add; split <;> simp_all
    have e2 : ∀ (C : Array Value) (fr : Nat × Nat), (w.drew.alloc (.cells C e fr)).cell? ⟨w.heap.size, j, none⟩ = C[j]? := fun C fr => World.cell?_alloc_mark w.drew C e fr j
    rw [e1, e2]
    have hj : j < s.size := by have := (List.getElem?_eq_some_iff.1 hu).1; rw [Lib.strCells_length] at this; exact this
    unfold bytesRow
    rw [Array.getElem?_append_left (by simpa using hj)]
    unfold Lib.strCells at hu
    rw [← hu]
    simp
  · exact ⟨rfl, rfl, rfl, by simp, fun k hk => Below.heap_alloc _ _ _ hk⟩
theorem run_str_own3 {P : Program} {w : World} {B C : Nat} (src dst e : TypeId) (hs : P.underlying src = some (.slice e)) (he : P.underlying e = some (.int .u8)) (hd : P.underlying dst = some .string) (v : Value) (zs : List Int) (h : Own w B C e v (ints .u8 zs)) :
    (convert src dst v).run P w = .ok (.string (strOfNums zs)) w := by
  rcases h.cases with ⟨rfl, h0⟩ | ⟨g, cap, cur, rfl, h1, h2, h3, h4, h5, h6, h7, h8⟩
  · have : zs = [] := by
      have := congrArg List.length h0
      rw [length_ints] at this
      exact List.eq_nil_of_length_eq_zero this
    subst this
    exact run_convert_bytes_nil w src e hs he 0 0 dst hd
  · rw [length_ints] at *
    refine run_convert_bytes_arg w src e hs he g 0 zs.length cap zs rfl ?_ dst hd
    intro i hi
    have hi' : i < (ints .u8 zs).length := by rw [length_ints]; exact hi
    obtain ⟨_, _, _, hc, _⟩ := h.at3 hi'
    rw [Nat.zero_add, hc, ints_get]
    simp [List.getD, List.getElem?_eq_getElem hi]
theorem infoU8t : (Tryd.prog.info? 5).map (fun i => (i.zero, i.size, i.bytes)) = some (some (.int .u8 0), 1, 1) := by kernel_rfl
theorem infoBuilder : (Tryd.prog.info? 52).map (·.size) = some 2 := by kernel_rfl
theorem liesBuilder : liesAt Tryd.prog Tryd.prog.depth 52 (2 / Tryd.prog.cellsOf 52) 0 52 1 = true := by kernel_rfl
set_option maxHeartbeats 1000000 in
set_option maxRecDepth 100000 in
theorem c_copyCheck_used (b : Nat) (w : World) (h0 : w.cell? ⟨b, 0, none⟩ = some (.pointer (some ⟨b, 0, none⟩))) :
    Calls Tryd.prog 42 #[.pointer (some ⟨b, 0, none⟩)] w fun e w' => e = .returned (.tuple #[]) ∧ w = w' := by
  obtain ⟨j, hj, _⟩ := Option.map_eq_some_iff.1 infoBuilder
  have hq := fun (w : World) => Lib.run_neq_ptr_same (P := Tryd.prog) w ⟨b, 0, none⟩ Tryd.underlying50 hj
  clear hj
  go_enter Tryd.func42, Tryd.ntmps42
  go_wp2
  go_end0
  exact ⟨rfl, rfl⟩
set_option maxHeartbeats 1000000 in
set_option maxRecDepth 100000 in
theorem c_copyCheck_fresh (b : Nat) (w : World) (h0 : w.cell? ⟨b, 0, none⟩ = some (.pointer none)) (hsh : w.shape? b = some (52, 2)) (hfz : w.frozen? ⟨b, 0, none⟩ = false) :
    Calls Tryd.prog 42 #[.pointer (some ⟨b, 0, none⟩)] w fun e w' => e = .returned (.tuple #[]) ∧ w.setCell ⟨b, 0, none⟩ (.pointer (some ⟨b, 0, none⟩)) = w' := by
  obtain ⟨j, hj, hjs⟩ := Option.map_eq_some_iff.1 infoBuilder
  have k1 := Lib.run_to_unsafe w ⟨b, 0, none⟩ Tryd.underlying50 Tryd.underlying72 hj (by rw [hjs]; decide) hsh (Nat.zero_lt_succ 1)
  have k2 : (callFunc 47 #[.pointer (some ⟨b, 0, none⟩)]).run Tryd.prog w = .ok (.value (.pointer (some ⟨b, 0, none⟩))) w := by
    rw [run_callFunc_extern Tryd.func47 (by kernel_rfl) (by kernel_rfl) (by kernel_rfl) (e := Extern.AbiNoEscape.same) (by kernel_rfl), Lib.run_noEscape]
    rfl
  have k3 := Lib.run_from_unsafe w ⟨b, 0, none⟩ Tryd.underlying72 Tryd.underlying50 hj hsh liesBuilder
  clear hj hjs hsh
  go_enter Tryd.func42, Tryd.ntmps42
  go_wp2
  go_end0
  exact ⟨rfl, rfl⟩
theorem c_copyCheck (B b : Nat) (bs : List Value) (w : World) (h : Lib.IsBuilder 52 5 B b bs w) :
    Calls Tryd.prog 42 #[.pointer (some ⟨b, 0, none⟩)] w fun e w' => e = .returned (.tuple #[]) ∧ (Lib.BuilderAt 52 5 B b (.pointer (some ⟨b, 0, none⟩)) bs w' ∧ Below B w w') := by
  rcases h with h | h
  · refine (c_copyCheck_fresh b w h.cell0 h.shape h.frozen0).mono ?_
    rintro e w' ⟨rfl, rfl⟩
    exact ⟨rfl, h.used _, (Below.refl B w).setCell (p := ⟨b, 0, none⟩) h.1 _⟩
  · refine (c_copyCheck_used b w h.cell0).mono ?_
    rintro e w' ⟨rfl, rfl⟩
    exact ⟨rfl, h, Below.refl B _⟩
theorem slice_of_row {w : World} {B e n : Nat} {v : Value} {xs : List Value} (h : w.ownsRow B e 1 v n xs) : ∃ ao cap, v = .slice ao n cap := by
  rcases h.2 with ⟨hv, h0⟩ | ⟨g, cap, cur, hv, _⟩
  · exact ⟨none, 0, by rw [hv, h0]⟩
  · exact ⟨_, _, hv⟩
theorem grown_block {w1 w2 : World} {v : Value} {b : Nat} {o : Obj} (hg : w1.grownBy w2 v.ownBlock) (hb : w1.heap[b]? = some o) (hne : v.ownBlock ≠ some b) (hlt : b < w1.heap.size) : w2.heap[b]? = some o := by
  rw [hg.block b hlt (fun e => hne e.symm)]; exact hb
theorem cell_row1 {w : World} {b : Nat} {x y : Value} {T : TypeId} (h : w.heap[b]? = some (.cells #[x, y] T (0, 0))) : w.cell? ⟨b, 1, none⟩ = some y := by
  rw [Lib.cell_of_heap h]; rfl
set_option maxHeartbeats 2000000 in
set_option maxRecDepth 100000 in
theorem c_WriteString (B b : Nat) (bs : List Value) (s : ByteArray) (w : World) (h : Lib.IsBuilder 52 5 B b bs w) (hlen : bs.length + s.size ≤ 1099511627776) (hBw : B ≤ w.heap.size) :
    Calls Tryd.prog 32 #[.pointer (some ⟨b, 0, none⟩), .string s] w fun e w' => e = .returned (.tuple #[.int .i64 s.size, .nilIface]) ∧ (Lib.IsBuilder 52 5 B b (bs ++ Lib.strCells s) w' ∧ Below B w w') := by
  obtain ⟨i0, hi, hz0, hz1, hz2⟩ := info_parts infoU8t
  go_enter Tryd.func32, Tryd.ntmps32
  go_wp2_with fail
  refine (c_copyCheck B b bs _ h).mono ?_
  rintro e w1 ⟨rfl, h1, hb1⟩
  obtain ⟨hB, v, hbk, hown, hne⟩ := h1
  have HOWN := hide hown
  have HBK := hide hbk
  have HNE := hide hne
  have HB1 := hide hb1
  have c1 : w1.cell? ⟨b, 1, none⟩ = some v := by rw [Lib.cell_of_heap hbk]; rfl
  have hlt : b < w1.heap.size := Lib.BuilderAt.lt ⟨hB, v, hbk, hown, hne⟩
  obtain ⟨ao, cap, rfl⟩ := slice_of_row hown
  clear hown hbk hne hb1 h
  go_wp2_with (at_builtin; refine Lib.wpList_append_own_string _ rfl (.tmp 12) (.tmp 13) 25 9 rfl B 5 i0 Tryd.underlying25 Tryd.underlying9 hi hz0 hz1 hz2 _ _ _ rfl HOWN.out s rfl (by unfold maxLen; omega) (by omega) (Nat.le_trans hBw HB1.out.size) ?_; intro v' w2 hown' hgrow _; obtain ⟨ao', cap', rfl⟩ := slice_of_row hown'; have HB2 := hide (grown_block hgrow HBK.out HNE.out hlt); have d1 := cell_row1 HB2.out; have f1 := Lib.frozen_of_heap HB2.out 1; have HOWN2 := hide hown'; have HG := hide hgrow; clear hown' hgrow c1)
  go_ret2
  refine ⟨rfl, .inr (Lib.BuilderAt.put (T := 52) (e := 5) hB HB2.out (bs' := bs ++ Lib.strCells s) ?_ (by decide)), ?_⟩
  · rw [List.length_append, Lib.strCells_length]; exact HOWN2.out
  · exact (HB1.out.grown HG.out (Nat.le_trans hBw HB1.out.size) (fun k hk => (HOWN.out.lt k hk).1)).setCell (p := ⟨b, 1, none⟩) hB _
theorem byteCells_ints (bs : List Int) (h : ∀ b ∈ bs, 0 ≤ b ∧ b < 256) : ints .u8 bs = Lib.byteCells (bs.map fun n => UInt8.ofNat n.toNat) := by
  have := str_cells bs h
  rw [← this]
  rfl
theorem bytesOf_bd (zs : List Int) (h : wordsOk zs) : ∀ b ∈ bytesOf zs, 0 ≤ b ∧ b < 256 := by
  intro b hb
  unfold bytesOf at hb
  obtain ⟨x, hx, hb⟩ := List.mem_flatMap.1 hb
  exact word4_bd x (h x hx).1 (h x hx).2 b hb
theorem builder_keep {T e : TypeId} {B b : Nat} {bs : List Value} {w w' : World} (h : Lib.IsBuilder T e B b bs w) (hb : Below w.heap.size w w') : Lib.IsBuilder T e B b bs w' := by
  have key : ∀ p, Lib.BuilderAt T e B b p bs w → Lib.BuilderAt T e B b p bs w' := by
    rintro p ⟨hB, v, hk, ho, hn⟩
    have hlt := Lib.BuilderAt.lt ⟨hB, v, hk, ho, hn⟩
    refine ⟨hB, v, (hb.block b hlt).trans hk, ?_, hn⟩
    have : Own w B w.heap.size e v bs := Own.top (C := w.heap.size) ⟨ho, fun g hg => (ho.lt g hg).2⟩
    exact (this.below hb).1
  rcases h with h | h
  · exact .inl (key _ h)
  · exact .inr (key _ h)
set_option maxRecDepth 100000 in
set_option maxHeartbeats 1000000 in
theorem i_TextOf_in (zs : List Int) (hz : wordsOk zs) (hn : zs.length ≤ 1000) (A : Option Addr) (c L H : Nat) (w : World) (h : Rd w L H A (ints .u32 zs)) :
    Calls Tryd.prog 19 #[.slice A zs.length c] w fun e w' => e = .returned (.tuple #[.string (textOf zs), .bool true]) ∧ Below w.heap.size w w' := by
  have H1 := hide h.top
  have HZ := hide hz
  clear h hz
  have d1 : decide ((1000 : Int) < zs.length) = false := by simp; omega
  go_enter Tryd.func19, Tryd.ntmps19
  go_wp2
  go_loopw [12] (fun i wr => ∃ j : Nat, j ≤ zs.length ∧ i = .int .i64 (j : Int) ∧ Below w.heap.size w wr ∧ Lib.IsBuilder 52 5 w.heap.size w.heap.size (ints .u8 (bytesOf (zs.take j))) wr) (fun i _ => zs.length - (intOf i).toNat)
  case atStart => exact ⟨0, Nat.zero_le _, rfl, (Below.refl _ _).alloc (Nat.le_refl _) _, Lib.fresh_isBuilder _ _ _⟩
  case round =>
    obtain ⟨j, hj, rfl, hb, ho⟩ := hrel
    have HB := hide hb
    have HO := hide ho
    clear hb ho
    by_cases hlt : j < zs.length
    · have hlt' : (j : Int) < (zs.length : Int) := by omega
      have hl2 : j < (ints .u32 zs).length := by rw [length_ints]; exact hlt
      obtain ⟨ad, rfl, _, _, hc⟩ := (H1.out.below HB.out).at_ hl2
      rw [ints_get] at hc
      have hx := HZ.out zs[j] (List.getElem_mem hlt)
      have HT := hide (bytesOf_take zs j hlt)
      have HX := hide (str_cells _ (word4_bd _ hx.1 hx.2))
      have HL := hide (show (ints .u8 (bytesOf (zs.take j))).length ≤ 4000 by rw [length_ints, bytesOf_len, List.length_take]; omega)
      obtain ⟨x, hxx⟩ : ∃ x, zs[j] = x := ⟨_, rfl⟩
      rw [hxx] at hc hx HT HX
      clear hxx
      have HC := hide (show Lib.strCells (wordText x) = ints .u8 (word4 x) from HX.out)
      have HS := hide (show (wordText x).size = 4 by rw [wordText, strOfNums_size]; rfl)
      go_wp2_with (first
        | (go_at_call 33; refine (i_WordText x hx.1 hx.2 _).mono ?_; rintro e w1 ⟨rfl, hb1⟩; have B1 := hide (bel_new HB.out hb1 HB.out.size); have O1 := hide (builder_keep HO.out hb1); clear hb1)
        | (go_at_call 32; refine (c_WriteString _ _ _ _ _ O1.out (by rw [HS.out]; have := HL.out; omega) B1.out.size).mono ?_; rintro e w2 ⟨rfl, ho2, hb2⟩; rw [HC.out] at ho2; have O2 := hide ho2; have B2 := hide (B1.out.trans hb2); clear ho2 hb2))
      go_roundw
      case rel => exact ⟨j + 1, by omega, by go_num, B2.out, by have := O2.out; rw [← HT.out]; unfold ints at this ⊢; rw [List.map_append]; exact this⟩
      case measure => simp [intOf]; omega
    · have e : j = zs.length := by omega
      have hge : zs.length ≤ j := by omega
      have ho := HO.out
      rw [e, List.take_length, byteCells_ints _ (bytesOf_bd zs HZ.out)] at ho
      have HO2 := hide ho
      clear e ho
      go_wp2_with (go_at_call 34; refine (Tryd.Builder_String_any _ _ _ _ HO2.out HB.out.size).mono ?_; rintro e w1 ⟨rfl, hb1⟩)
      go_ret2
      exact ⟨rfl, HB.out.trans ‹_›⟩
theorem i_TextOf (zs : List Int) (hz : wordsOk zs) (hn : zs.length ≤ 9223372036854775807) (A : Option Addr) (c L H : Nat) (w : World) (h : Rd w L H A (ints .u32 zs)) :
    Calls Tryd.prog 19 #[.slice A zs.length c] w fun e w' => e = .returned (.tuple #[.string (textI zs), .bool (textOk zs.length)]) ∧ Below w.heap.size w w' := by
  by_cases hl : zs.length ≤ 1000
  · have e1 : textOk zs.length = true := by simp [textOk, hl]
    have e2 : textI zs = textOf zs := by simp [textI, e1]
    rw [e1, e2]
    exact i_TextOf_in zs hz hl A c L H w h
  · have e1 : textOk zs.length = false := by simp [textOk]; omega
    have e2 : textI zs = ⟨#[]⟩ := by simp [textI, e1]
    rw [e1, e2]
    have hl' : (1000 : Int) < zs.length := by omega
    clear h hz e1 e2
    go_enter Tryd.func19, Tryd.ntmps19
    go_wp2
    go_ret2
    exact ⟨rfl, Below.refl _ _⟩
theorem wordsOk_of {zs : List Int} (h : ∀ n ∈ zs, (Lit.int .u32 n).wf = true) : wordsOk zs := fun x hx => by
  have := h x hx
  simp [Lit.wf, IntKind.min, IntKind.max, IntKind.signed, IntKind.bits] at this
  omega
end Go.Proofs.YtejhpkcoeakegaaDoor

/-
  Plain: the words of a text make the text again; the parts of a line, put together with one blank ahead of each, are read as the same parts.
-/
import Derived.Test.YtejhpkcoeakegaaDoorPartsPlain
import Derived.Test.YtejhpkcoeakegaaDoorWords
import Derived.Test.YtejhpkcoeakegaaDoorTextOf
namespace Go.Proofs.YtejhpkcoeakegaaDoor
set_option linter.unusedVariables false
open Go.RowKit

theorem strOf_bytes2 (s : ByteArray) : strOfNums ((List.range s.size).map fun i => byteAt s i) = s := by
  apply ByteArray.ext
  apply Array.ext'
  rw [strOfNums_data]
  apply List.ext_getElem
  · simp
  · intro i h1 h2
    simp only [List.getElem_map, List.getElem_range, byteAt, Int.toNat_natCast]
    rw [List.getD_eq_getElem?_getD, List.getElem?_eq_getElem h2]
    simp
theorem word4_wordAt (s : ByteArray) (a : Nat) : word4 (wordAt s a) = [byteAt s a, byteAt s (a + 1), byteAt s (a + 2), byteAt s (a + 3)] := by
  have a0 := byteAt_lo s a; have a1 := byteAt_hi s a
  have b0 := byteAt_lo s (a + 1); have b1 := byteAt_hi s (a + 1)
  have c0 := byteAt_lo s (a + 2); have c1 := byteAt_hi s (a + 2)
  have d0 := byteAt_lo s (a + 3); have d1 := byteAt_hi s (a + 3)
  unfold word4 wordAt
  generalize byteAt s a = p at *
  generalize byteAt s (a + 1) = q at *
  generalize byteAt s (a + 2) = r at *
  generalize byteAt s (a + 3) = t at *
  rw [show (p * 16777216 + q * 65536 + r * 256 + t) / 16777216 = p by omega, show (p * 16777216 + q * 65536 + r * 256 + t) / 65536 % 256 = q by omega, show (p * 16777216 + q * 65536 + r * 256 + t) / 256 % 256 = r by omega, show (p * 16777216 + q * 65536 + r * 256 + t) % 256 = t by omega]
theorem bytes_wordsTo (s : ByteArray) : ∀ (j : Nat), 4 * j ≤ s.size → bytesOf (wordsTo s j) = (List.range (4 * j)).map fun i => byteAt s i
  | 0, _ => rfl
  | j + 1, h => by
    have ih := bytes_wordsTo s j (by omega)
    have e1 : wordsTo s (j + 1) = wordsTo s j ++ [wordAtI s (4 * (j : Int))] := by simp [wordsTo, List.range_succ]
    have e2 : wordAtI s (4 * (j : Int)) = wordAt s (4 * j) := by
      unfold wordAtI; rw [if_pos (by omega)]; congr 1
    have e3 : 4 * (j + 1) = 4 * j + 1 + 1 + 1 + 1 := by omega
    rw [e1, e2, e3, List.range_succ, List.range_succ, List.range_succ, List.range_succ]
    unfold bytesOf at *
    rw [List.flatMap_append, ih, List.flatMap_cons, List.flatMap_nil, word4_wordAt]
    simp
theorem words_bd (s : ByteArray) : wordsOk (wordsOf s) := by
  intro x hx
  unfold wordsOf at hx
  split at hx
  · unfold wordsTo at hx
    obtain ⟨i, _, rfl⟩ := List.mem_map.1 hx
    unfold wordAtI
    split
    · generalize (4 * (i : Int)).toNat = a
      unfold wordAt
      have a0 := byteAt_lo s a; have a1 := byteAt_hi s a
      have b0 := byteAt_lo s (a + 1); have b1 := byteAt_hi s (a + 1)
      have c0 := byteAt_lo s (a + 2); have c1 := byteAt_hi s (a + 2)
      have d0 := byteAt_lo s (a + 3); have d1 := byteAt_hi s (a + 3)
      omega
    · omega
  · simp at hx
/-- The words of a text make the text again. -/
theorem text_words (s : ByteArray) (h : s.size ≤ 4000) (h4 : s.size % 4 = 0) : wordsGood s = true ∧ textOk (wordsOf s).length = true ∧ textI (wordsOf s) = s ∧ wordsOk (wordsOf s) := by
  have hg : wordsGood s = true := by unfold wordsGood; rw [decide_eq_true h, decide_eq_true h4]; rfl
  have ht : textOk (wordsOf s).length = true := by unfold textOk; exact decide_eq_true (wordsOf_len s)
  refine ⟨hg, ht, ?_, words_bd s⟩
  unfold textI
  rw [if_pos ht]
  unfold wordsOf
  rw [if_pos hg]
  unfold textOf
  rw [bytes_wordsTo s _ (by omega), show 4 * (s.size / 4) = s.size by omega, strOf_bytes2]
/-- The parts put together, a blank ahead of each. -/
def joinL (Q : List (List UInt8)) : List UInt8 := Q.flatMap fun p => 32 :: p
def lineOf (Z : List ByteArray) : ByteArray := mkB (Z.flatMap fun p => 32 :: p.data.toList)
theorem lineOf_nil : lineOf [] = ⟨#[]⟩ := rfl
theorem lineOf_next {Z : List ByteArray} {k : Nat} (h : k < Z.length) : lineOf (Z.take (k + 1)) = lineOf (Z.take k) ++ ⟨#[32]⟩ ++ Z[k]'h := by
  rw [List.take_succ_eq_append_getElem h]
  unfold lineOf
  rw [List.flatMap_append, List.flatMap_cons, List.flatMap_nil, List.append_nil]
  apply ByteArray.ext
  apply Array.ext'
  rw [ByteArray.data_append, Array.toList_append, ByteArray.data_append, Array.toList_append]
  unfold mkB
  rw [List.toList_toArray, List.toList_toArray, List.append_assoc]
  rfl
theorem lineOf_size (Z : List ByteArray) (h : ∀ p ∈ Z, p.size ≤ 600) : (lineOf Z).size ≤ 601 * Z.length := by
  unfold lineOf
  rw [mkB_size]
  induction Z with
  | nil => exact Nat.le_refl _
  | cons p Z ih =>
    have h1 := ih fun q hq => h q (List.mem_cons_of_mem _ hq)
    have h2 := h p List.mem_cons_self
    rw [List.flatMap_cons, List.length_append, List.length_cons, List.length_cons]
    have h3 : p.data.toList.length = p.size := by simp
    omega
theorem pcs_in (l : List UInt8) : ∀ p ∈ pcs l, (∀ b ∈ p, b ≠ 32) ∧ ∀ b ∈ p, b ∈ l := by
  induction l with
  | nil => intro p hp; rw [pcs, List.mem_singleton] at hp; subst hp; exact ⟨fun b h => by simp at h, fun b h => by simp at h⟩
  | cons c l ih =>
    intro p hp
    rw [pcs] at hp
    by_cases hc : c = 32
    · rw [if_pos hc] at hp
      rcases List.mem_cons.1 hp with rfl | hp
      · exact ⟨fun b h => by simp at h, fun b h => by simp at h⟩
      · exact ⟨(ih p hp).1, fun b h => List.mem_cons_of_mem _ ((ih p hp).2 b h)⟩
    · rw [if_neg hc] at hp
      have e := pcs_eq l
      rcases List.mem_cons.1 hp with rfl | hp
      · have hh := ih ((pcs l).headD []) (by rw [e]; exact List.mem_cons_self)
        refine ⟨fun b h => ?_, fun b h => ?_⟩
        · rcases List.mem_cons.1 h with rfl | h
          · exact hc
          · exact hh.1 b h
        · rcases List.mem_cons.1 h with rfl | h
          · exact List.mem_cons_self
          · exact List.mem_cons_of_mem _ (hh.2 b h)
      · have hh := ih p (by rw [e]; exact List.mem_cons_of_mem _ hp)
        exact ⟨hh.1, fun b h => List.mem_cons_of_mem _ (hh.2 b h)⟩
theorem fold_word (p : List UInt8) (h : ∀ b ∈ p, b ≠ 32) : ∀ (o : List (List UInt8)) (n : List UInt8), p.foldl wstep (o, n) = (o, n ++ p) := by
  induction p with
  | nil => intro o n; simp
  | cons b p ih =>
    intro o n
    rw [List.foldl_cons]
    have e : wstep (o, n) b = (o, n ++ [b]) := by unfold wstep; rw [if_neg (h b List.mem_cons_self)]
    rw [e, ih (fun c hc => h c (List.mem_cons_of_mem _ hc)), List.append_assoc]; rfl
theorem fold_join (Q : List (List UInt8)) (h : ∀ p ∈ Q, p ≠ [] ∧ ∀ b ∈ p, b ≠ 32) : ∀ (o : List (List UInt8)) (n : List UInt8), wend ((joinL Q).foldl wstep (o, n)) = wend (o, n) ++ Q := by
  induction Q with
  | nil => intro o n; show wend (o, n) = _; rw [List.append_nil]
  | cons p Q ih =>
    intro o n
    have e1 : joinL (p :: Q) = 32 :: (p ++ joinL Q) := rfl
    have e2 : wstep (o, n) 32 = (wend (o, n), []) := rfl
    obtain ⟨hp1, hp2⟩ := h p List.mem_cons_self
    rw [e1, List.foldl_cons, e2, List.foldl_append, fold_word p hp2, List.nil_append, ih fun q hq => h q (List.mem_cons_of_mem _ hq)]
    show (if p = [] then wend (o, n) else wend (o, n) ++ [p]) ++ Q = _
    rw [if_neg hp1, List.append_assoc]; rfl
/-- The words of a line, put together, are read as the same words. -/
theorem parts_back (s : ByteArray) (h : partsOk s = true) (hl : (lineOf (partsB s)).size ≤ 600) : partsOk (lineOf (partsB s)) = true ∧ partsL (lineOf (partsB s)) = partsB s := by
  have h' := h
  unfold partsOk at h'
  simp only [Bool.and_eq_true, decide_eq_true_eq] at h'
  obtain ⟨⟨_, hall⟩, h12⟩ := h'
  have hQ : ∀ p ∈ (pcs s.data.toList).filter neL, p ≠ [] ∧ ∀ b ∈ p, b ≠ 32 := fun p hp => by
    obtain ⟨h1, h2⟩ := List.mem_filter.1 hp
    exact ⟨fun e => by subst e; exact absurd h2 (by decide), (pcs_in _ p h1).1⟩
  have hB : ∀ p ∈ (pcs s.data.toList).filter neL, ∀ b ∈ p, lineB b = true := fun p hp b hb => by
    obtain ⟨h1, _⟩ := List.mem_filter.1 hp
    exact List.all_eq_true.1 hall b ((pcs_in _ p h1).2 b hb)
  have e1 : (lineOf (partsB s)).data.toList = joinL ((pcs s.data.toList).filter neL) := by
    unfold lineOf partsB joinL mkB
    rw [List.flatMap_map, List.toList_toArray]
  have e2 : partsB (lineOf (partsB s)) = partsB s := by
    rw [partsB, e1, ← wend_all, fold_join _ hQ]
    rfl
  have e3 : (lineOf (partsB s)).data.toList.all lineB = true := by
    rw [e1, List.all_eq_true]
    intro b hb
    unfold joinL at hb
    obtain ⟨p, hp, hb⟩ := List.mem_flatMap.1 hb
    rcases List.mem_cons.1 hb with rfl | hb
    · decide
    · exact hB p hp b hb
  have e4 : partsOk (lineOf (partsB s)) = true := by
    unfold partsOk
    rw [e3, e2, decide_eq_true hl, decide_eq_true h12]; rfl
  exact ⟨e4, by rw [pk_yes e4, e2]⟩
end Go.Proofs.YtejhpkcoeakegaaDoor

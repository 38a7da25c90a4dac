/-
  Plain: a line cut at its blanks, piece by piece and byte by byte. No program in sight.
-/
import Derived.Test.YtejhpkcoeakegaaDoorBase
import Derived.Lib.SplitLaws
namespace Go.Proofs.YtejhpkcoeakegaaDoor
set_option linter.unusedVariables false
open Go.RowKit

theorem toList_inj2 {a b : ByteArray} (h : a.toList = b.toList) : a = b := by
  rw [ByteArray.toList_eq, ByteArray.toList_eq] at h
  exact ByteArray.ext (Array.ext' h)
/-- May this byte stand in a line? -/
def lineB (b : UInt8) : Bool := decide (32 ≤ b.toNat) && decide (b.toNat ≤ 126)
theorem lineCases (b : UInt8) : (lineB b = true ∧ 32 ≤ (b.toNat : Int) ∧ (b.toNat : Int) ≤ 126) ∨ (lineB b = false ∧ (b.toNat : Int) < 32) ∨ (lineB b = false ∧ 32 ≤ (b.toNat : Int) ∧ 126 < (b.toNat : Int)) := by
  unfold lineB
  by_cases h1 : 32 ≤ b.toNat
  · by_cases h2 : b.toNat ≤ 126
    · exact .inl ⟨by simp [h1, h2], by omega, by omega⟩
    · exact .inr (.inr ⟨by simp [h2], by omega, by omega⟩)
  · exact .inr (.inl ⟨by simp [h1], by omega⟩)
abbrev WSt := List (List UInt8) × List UInt8
def wstep (st : WSt) (b : UInt8) : WSt := if b = 32 then (if st.2 = [] then st.1 else st.1 ++ [st.2], []) else (st.1, st.2 ++ [b])
def wend (st : WSt) : List (List UInt8) := if st.2 = [] then st.1 else st.1 ++ [st.2]
def pcs : List UInt8 → List (List UInt8)
  | [] => [[]]
  | b :: l => if b = 32 then [] :: pcs l else (b :: (pcs l).headD []) :: (pcs l).tail
def neL (p : List UInt8) : Bool := !p.isEmpty
theorem pcs_eq (l : List UInt8) : pcs l = (pcs l).headD [] :: (pcs l).tail := by
  cases l with
  | nil => rfl
  | cons b l => rw [pcs]; split <;> rfl
theorem filter_head (out : List (List UInt8)) (now : List UInt8) (r : List (List UInt8)) : out ++ (now :: r).filter neL = (if now = [] then out else out ++ [now]) ++ r.filter neL := by
  by_cases h : now = []
  · subst h; rw [if_pos rfl, List.filter_cons_of_neg (by decide)]
  · rw [if_neg h, List.filter_cons_of_pos (by unfold neL; cases now with | nil => exact absurd rfl h | cons _ _ => rfl), List.append_assoc]; rfl
theorem wend_fold (l : List UInt8) : ∀ (out : List (List UInt8)) (now : List UInt8), wend (l.foldl wstep (out, now)) = out ++ ((now ++ (pcs l).headD []) :: (pcs l).tail).filter neL := by
  induction l with
  | nil =>
    intro out now
    rw [filter_head]
    by_cases h : now = []
    · subst h; simp [pcs, wend]
    · simp [pcs, wend, h]
  | cons b l ih =>
    intro out now
    rw [List.foldl_cons]
    by_cases hb : b = 32
    · subst hb
      have e1 : wstep (out, now) 32 = (if now = [] then out else out ++ [now], []) := rfl
      have e2 : pcs (32 :: l) = [] :: pcs l := by rw [pcs, if_pos rfl]
      rw [e1, ih, e2, List.nil_append, ← pcs_eq l]
      show _ = out ++ ((now ++ []) :: pcs l).filter neL
      rw [List.append_nil, filter_head]
    · have e1 : wstep (out, now) b = (out, now ++ [b]) := by unfold wstep; rw [if_neg hb]
      have e2 : pcs (b :: l) = (b :: (pcs l).headD []) :: (pcs l).tail := by rw [pcs, if_neg hb]
      rw [e1, ih, e2]
      show out ++ ((now ++ [b] ++ (pcs l).headD []) :: (pcs l).tail).filter neL = out ++ ((now ++ (b :: (pcs l).headD [])) :: (pcs l).tail).filter neL
      rw [List.append_assoc]; rfl
theorem wend_all (l : List UInt8) : wend (l.foldl wstep ([], [])) = (pcs l).filter neL := by
  rw [wend_fold, List.nil_append, List.nil_append, ← pcs_eq]
open Go.Lib in
theorem split_pcs : ∀ (l : List UInt8), splitK [32] 0 (count l [32]) l = pcs l
  | [] => by
    rw [count_miss (by simp [index])]; rfl
  | b :: l => by
    have ih := split_pcs l
    by_cases hb : b = 32
    · subst hb
      have hix : index (32 :: l) [32] = ((0 : Nat) : Int) := by rw [index]; simp [List.isPrefixOf]
      have hm : ¬ (index (32 :: l) [32] == -1) = true := by rw [hix]; decide
      have e2 : pcs (32 :: l) = [] :: pcs l := by rw [pcs, if_pos rfl]
      rw [count_cons_eq, Nat.add_comm, splitK, if_neg hm, hix, e2, ← ih]
      rfl
    · have e2 : pcs (b :: l) = (b :: (pcs l).headD []) :: (pcs l).tail := by rw [pcs, if_neg hb]
      have hp : ([32] : List UInt8).isPrefixOf (b :: l) = false := by simp [List.isPrefixOf, Ne.symm hb]
      have hix : index (b :: l) [32] = if index l [32] == -1 then -1 else index l [32] + 1 := by rw [index, hp]; simp
      rw [count_cons_ne b 32 l hb]
      by_cases hm : index l [32] = -1
      · rw [count_miss hm] at ih ⊢
        rw [e2, ← ih]; rfl
      · have hge := index_ge l [32]
        obtain ⟨j, hj⟩ : ∃ j : Nat, index l [32] = j := ⟨(index l [32]).toNat, by omega⟩
        have hix' : index (b :: l) [32] = ((j + 1 : Nat) : Int) := by rw [hix, if_neg (fun e => hm (beq_iff_eq.1 e)), hj]; omega
        have h1 : ¬ (index l [32] == -1) = true := fun e => hm (beq_iff_eq.1 e)
        have h2 : ¬ (index (b :: l) [32] == -1) = true := fun e => by have := beq_iff_eq.1 e; omega
        obtain ⟨k, hk⟩ : ∃ k, count l [32] = k + 1 := ⟨count (l.drop (j + [(32 : UInt8)].length)) [32], by rw [count_hit (by simp) hj]; omega⟩
        rw [hk] at ih ⊢
        rw [splitK, if_neg h1, hj] at ih
        rw [splitK, if_neg h2, hix', e2, ← ih]
        simp
def mkB (l : List UInt8) : ByteArray := ⟨l.toArray⟩
theorem mkB_list (s : ByteArray) : mkB s.data.toList = s := rfl
theorem mkB_size (l : List UInt8) : (mkB l).size = l.length := by show l.toArray.size = _; simp
/-- The test of the program: is the piece not empty? -/
def neB (p : ByteArray) : Bool := !(p.toList == (⟨#[]⟩ : ByteArray).toList)
theorem neB_mk (l : List UInt8) : neB (mkB l) = neL l := by
  unfold neB neL
  rw [ByteArray.toList_eq, ByteArray.toList_eq]
  show (!(l.toArray.toList == [])) = _
  rw [List.toList_toArray]
  cases l <;> rfl
theorem neB_empty {p : ByteArray} {b : Bool} (h : neB p = b) : p.toList.isEmpty = !b := by
  have e : neB p = !p.toList.isEmpty := by
    unfold neB
    rw [ByteArray.toList_eq ⟨#[]⟩]
    show (!(p.toList == [])) = _
    cases p.toList <;> rfl
  rw [← h, e, Bool.not_not]
/-- The parts of a line. -/
def partsB (s : ByteArray) : List ByteArray := ((pcs s.data.toList).filter neL).map mkB
def cutB (s : ByteArray) : List ByteArray := Lib.splitB ⟨#[32]⟩ 0 (Lib.countB s ⟨#[32]⟩) s
theorem cutB_len (s : ByteArray) : (cutB s).length = Lib.countB s ⟨#[32]⟩ + 1 := Lib.splitB_all _ (by decide) 0 _ s rfl
theorem cutB_mk (s : ByteArray) : cutB s = (pcs s.data.toList).map mkB := by
  have h := Lib.splitB_data ⟨#[32]⟩ 0 (Lib.countB s ⟨#[32]⟩) s
  have h2 : (cutB s).map (·.data.toList) = pcs s.data.toList := h.trans (split_pcs _)
  rw [← h2, List.map_map]
  have : (mkB ∘ fun x : ByteArray => x.data.toList) = id := by funext x; rfl
  rw [this, List.map_id]
theorem cutB_filter (s : ByteArray) : (cutB s).filter neB = partsB s := by
  rw [cutB_mk, List.filter_map]
  have : (neB ∘ mkB) = neL := by funext x; exact neB_mk x
  rw [this]; rfl
theorem filter_step {Z : List ByteArray} {k : Nat} (h : k < Z.length) : (Z.take (k + 1)).filter neB = if neB (Z[k]'h) then (Z.take k).filter neB ++ [Z[k]'h] else (Z.take k).filter neB := by
  rw [List.take_succ_eq_append_getElem h, List.filter_append]
  cases hn : neB (Z[k]'h)
  · rw [List.filter_cons_of_neg (by rw [hn]; decide), List.filter_nil, List.append_nil]; rfl
  · rw [List.filter_cons_of_pos hn, List.filter_nil]; rfl
/-- The reference's state before the j-th byte. -/
def wO (s : ByteArray) (j : Nat) : List ByteArray := if j ≤ s.size then ((s.data.toList.take j).foldl wstep ([], [])).1.map mkB else partsB s
def wN (s : ByteArray) (j : Nat) : ByteArray := if j ≤ s.size then mkB ((s.data.toList.take j).foldl wstep ([], [])).2 else ⟨#[]⟩
theorem w_start (s : ByteArray) : wO s 0 = [] ∧ wN s 0 = ⟨#[]⟩ := by
  unfold wO wN; rw [if_pos (Nat.zero_le _), if_pos (Nat.zero_le _)]; exact ⟨rfl, rfl⟩
theorem take_next {s : ByteArray} {j : Nat} (hj : j < s.size) : s.data.toList.take (j + 1) = s.data.toList.take j ++ [s[j]'hj] := by
  have h' : j < s.data.toList.length := by simpa using hj
  rw [List.take_succ_eq_append_getElem h']; rfl
theorem w_blank {s : ByteArray} {j : Nat} (hj : j < s.size) (hb : (s[j]'hj).toNat = 32) : wO s (j + 1) = (if neB (wN s j) then wO s j ++ [wN s j] else wO s j) ∧ wN s (j + 1) = ⟨#[]⟩ := by
  have hb' : s[j]'hj = 32 := UInt8.toNat_inj.1 hb
  unfold wO wN
  rw [if_pos (by omega : j + 1 ≤ s.size), if_pos (by omega : j ≤ s.size), if_pos (by omega : j + 1 ≤ s.size), if_pos (by omega : j ≤ s.size), take_next hj, List.foldl_append, List.foldl_cons, List.foldl_nil, hb', neB_mk]
  generalize (s.data.toList.take j).foldl wstep ([], []) = st
  obtain ⟨o, n⟩ := st
  refine ⟨?_, rfl⟩
  show (if n = [] then o else o ++ [n]).map mkB = _
  cases n with
  | nil => rfl
  | cons a r => rw [if_neg (by simp), List.map_append]; rfl
theorem w_other {s : ByteArray} {j : Nat} (hj : j < s.size) (hb : (s[j]'hj).toNat ≠ 32) : wO s (j + 1) = wO s j ∧ wN s (j + 1) = wN s j ++ s.extract j (j + 1) := by
  have hb' : s[j]'hj ≠ 32 := fun e => hb (by rw [e]; rfl)
  unfold wO wN
  rw [if_pos (by omega : j + 1 ≤ s.size), if_pos (by omega : j ≤ s.size), if_pos (by omega : j + 1 ≤ s.size), if_pos (by omega : j ≤ s.size), take_next hj, List.foldl_append, List.foldl_cons, List.foldl_nil]
  generalize (s.data.toList.take j).foldl wstep ([], []) = st
  obtain ⟨o, n⟩ := st
  have e1 : wstep (o, n) (s[j]'hj) = (o, n ++ [s[j]'hj]) := by unfold wstep; rw [if_neg hb']
  rw [e1]
  refine ⟨rfl, ?_⟩
  apply ByteArray.ext
  apply Array.ext'
  have h' : j < s.data.toList.length := by simpa using hj
  rw [ByteArray.data_append, Array.toList_append, Lib.extract_data]
  show (n ++ [s[j]'hj]).toArray.toList = n.toArray.toList ++ _
  rw [List.toList_toArray, List.toList_toArray]
  congr 1
  have e3 : [s[j]'hj] = (s.data.toList.drop j).take 1 := by
    rw [List.drop_eq_getElem_cons h']; rfl
  rw [e3]
  first | (simp; done) | (rw [show j + 1 - j = 1 from by omega])
theorem w_end (s : ByteArray) : wO s (s.size + 1) = (if neB (wN s s.size) then wO s s.size ++ [wN s s.size] else wO s s.size) ∧ wN s (s.size + 1) = ⟨#[]⟩ ∧ wO s (s.size + 1) = partsB s := by
  unfold wO wN
  rw [if_neg (by omega : ¬ s.size + 1 ≤ s.size), if_pos (Nat.le_refl _), if_neg (by omega : ¬ s.size + 1 ≤ s.size), if_pos (Nat.le_refl _), neB_mk]
  refine ⟨?_, rfl, rfl⟩
  have e : s.data.toList.take s.size = s.data.toList := List.take_of_length_le (by simp)
  unfold partsB
  rw [e, ← wend_all]
  generalize s.data.toList.foldl wstep ([], []) = st
  obtain ⟨o, n⟩ := st
  show (if n = [] then o else o ++ [n]).map mkB = _
  cases n with
  | nil => rfl
  | cons a r => rw [if_neg (by simp), List.map_append]; rfl
def stIn (st : WSt) (B : Nat) : Prop := st.2.length ≤ B ∧ st.1.length ≤ B ∧ ∀ p ∈ st.1, p.length ≤ B
theorem fold_in (l : List UInt8) : ∀ (st : WSt) (B : Nat), stIn st B → stIn (l.foldl wstep st) (B + l.length) := by
  induction l with
  | nil => intro st B h; exact h
  | cons b l ih =>
    intro st B h
    rw [List.foldl_cons, List.length_cons, show B + (l.length + 1) = (B + 1) + l.length by omega]
    refine ih _ _ ?_
    obtain ⟨o, n⟩ := st
    obtain ⟨i1, i2, i3⟩ := h
    simp only at i1 i2 i3
    unfold wstep stIn
    by_cases hb : b = 32
    · rw [if_pos hb]
      cases n with
      | nil => exact ⟨Nat.zero_le _, by simp; omega, fun p hp => by have := i3 p (by simpa using hp); omega⟩
      | cons a r =>
        rw [if_neg (by simp)]
        refine ⟨Nat.zero_le _, by simp; omega, fun p hp => ?_⟩
        rcases List.mem_append.1 hp with h | h
        · have := i3 p h; omega
        · rw [List.mem_singleton.1 h]; simp at i1 ⊢; omega
    · rw [if_neg hb]
      exact ⟨by simp; omega, by simp; omega, fun p hp => by have := i3 p hp; omega⟩
theorem fold_sizes (l : List UInt8) : (l.foldl wstep ([], [])).2.length ≤ l.length ∧ (l.foldl wstep ([], [])).1.length ≤ l.length ∧ ∀ p ∈ (l.foldl wstep ([], [])).1, p.length ≤ l.length := by
  have := fold_in l ([], []) 0 ⟨Nat.le_refl _, Nat.le_refl _, fun p h => by simp at h⟩
  rw [Nat.zero_add] at this
  exact this
theorem w_sizes (s : ByteArray) (j : Nat) (hj : j ≤ s.size) : (wN s j).size ≤ j ∧ (wO s j).length ≤ j := by
  have h := fold_sizes (s.data.toList.take j)
  have hl : (s.data.toList.take j).length = j := by rw [List.length_take]; simp; omega
  rw [hl] at h
  unfold wN wO
  rw [if_pos hj, if_pos hj, mkB_size, List.length_map]
  exact ⟨h.1, h.2.1⟩
theorem parts_sizes (s : ByteArray) : (partsB s).length ≤ s.size + 1 ∧ ∀ p ∈ partsB s, p.size ≤ s.size := by
  have h := fold_sizes s.data.toList
  have hl : s.data.toList.length = s.size := by simp
  unfold partsB
  rw [← wend_all]
  unfold wend
  rw [hl] at h
  generalize s.data.toList.foldl wstep ([], []) = st at h ⊢
  obtain ⟨o, n⟩ := st
  obtain ⟨i1, i2, i3⟩ := h
  simp only at i1 i2 i3 ⊢
  split
  · exact ⟨by rw [List.length_map]; omega, fun p hp => by obtain ⟨q, hq, rfl⟩ := List.mem_map.1 hp; rw [mkB_size]; exact i3 q hq⟩
  · refine ⟨by simp; omega, fun p hp => ?_⟩
    obtain ⟨q, hq, rfl⟩ := List.mem_map.1 hp
    rw [mkB_size]
    rcases List.mem_append.1 hq with h | h
    · exact i3 q h
    · rw [List.mem_singleton.1 h]; exact i1
/-- Is this a line of at most twelve parts? -/
def partsOk (s : ByteArray) : Bool := decide (s.size ≤ 600) && s.data.toList.all lineB && decide ((partsB s).length ≤ 12)
def partsL (s : ByteArray) : List ByteArray := if partsOk s = true then partsB s else []
theorem pk_not {s : ByteArray} (h : partsOk s = false) : partsL s = [] := by unfold partsL; rw [if_neg (by rw [h]; decide)]
theorem pk_yes {s : ByteArray} (h : partsOk s = true) : partsL s = partsB s := if_pos h
theorem pk_long {s : ByteArray} (h : ¬ s.size ≤ 600) : partsOk s = false := by simp [partsOk, h]
theorem pk_bad {s : ByteArray} {j : Nat} (hj : j < s.size) (h : lineB (s[j]'hj) = false) : partsOk s = false := by
  have h' : j < s.data.toList.length := by simpa using hj
  have : s.data.toList.all lineB = false := by
    rw [List.all_eq_false]
    exact ⟨s.data.toList[j], List.getElem_mem h', ne_true_of_eq_false h⟩
  unfold partsOk; rw [this, Bool.and_false, Bool.false_and]
theorem pk_many {s : ByteArray} (h : 12 < (partsB s).length) : partsOk s = false := by
  unfold partsOk; rw [decide_eq_false (by omega : ¬ (partsB s).length ≤ 12), Bool.and_false]
def lineT (s : ByteArray) (j : Nat) : Prop := (s.data.toList.take j).all lineB = true
theorem lineT_succ {s : ByteArray} {j : Nat} (hj : j < s.size) (h : lineT s j) (hb : lineB (s[j]'hj) = true) : lineT s (j + 1) := by
  unfold lineT at *
  rw [take_next hj, List.all_append, h, Bool.true_and, List.all_cons, List.all_nil, Bool.and_true]
  exact hb
theorem pk_all {s : ByteArray} {j : Nat} (h : s.size ≤ j) (hd : lineT s j) (h6 : s.size ≤ 600) (hp : (partsB s).length ≤ 12) : partsOk s = true := by
  unfold lineT at hd
  have e : s.data.toList.take j = s.data.toList := List.take_of_length_le (by simpa using h)
  rw [e] at hd
  unfold partsOk
  rw [hd, decide_eq_true h6, decide_eq_true hp]; rfl
theorem lineT_end {s : ByteArray} (h : lineT s s.size) : lineT s (s.size + 1) := by
  unfold lineT at *
  rw [List.take_of_length_le (by simp)] at *
  exact h
theorem strs_push (zs : List ByteArray) (x : ByteArray) : strs zs ++ [.string x] = strs (zs ++ [x]) := by simp [strs]
end Go.Proofs.YtejhpkcoeakegaaDoor

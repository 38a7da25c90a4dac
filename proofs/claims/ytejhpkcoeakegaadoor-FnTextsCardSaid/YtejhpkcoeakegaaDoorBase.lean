/-
  Words for memory: a slice that reads as a list; a slice that owns a block of its own between two block numbers; what a call may have changed. No program in sight.
-/
import Derived.Test.YtejhpkcoeakegaaDoorPlain
import Derived.Laws.OwnMore
import Derived.Deep.AppendLies
import Derived.Deep.Draws
import Derived.OwnWalk
import Derived.Laws.Rows
import Derived.Laws.BytesArg
namespace Go.Proofs.YtejhpkcoeakegaaDoor
set_option linter.unusedVariables false
open Go.RowKit

/-- Of the old blocks only those from B to C (C not included) may have changed. -/
structure Chg (B C : Nat) (w w' : World) : Prop where
  os : w'.os = w.os
  tape : w'.tape = w.tape
  output : w'.output = w.output
  size : w.heap.size ≤ w'.heap.size
  block : ∀ k, k < w.heap.size → (k < B ∨ C ≤ k) → w'.heap[k]? = w.heap[k]?

section
variable {B C B' C' X : Nat} {w w' a : World}
theorem Chg.refl (B C : Nat) (w : World) : Chg B C w w := ⟨rfl, rfl, rfl, Nat.le_refl _, fun _ _ _ => rfl⟩
theorem Chg.trans (h : Chg B C a w) (k : Chg B C w w') : Chg B C a w' :=
  ⟨k.os.trans h.os, k.tape.trans h.tape, k.output.trans h.output, Nat.le_trans h.size k.size, fun i hi hh => (k.block i (Nat.lt_of_lt_of_le hi h.size) hh).trans (h.block i hi hh)⟩
theorem Chg.wide (h : Chg B C w w') (hB : B' ≤ B) (hC : C ≤ C') : Chg B' C' w w' := ⟨h.os, h.tape, h.output, h.size, fun k hk hh => h.block k hk (by omega)⟩
theorem Chg.drew (h : Chg B C a w) : Chg B C a w.drew := ⟨h.os, h.tape, h.output, h.size, h.block⟩
theorem Chg.drewN (h : Chg B C a w) (n : Nat) : Chg B C a (w.drewN n) := h.trans ⟨rfl, rfl, rfl, Nat.le_refl _, fun _ _ _ => rfl⟩
theorem Chg.alloc (h : Chg B C a w) (o : Obj) : Chg B C a (w.alloc o) := h.trans ⟨rfl, rfl, rfl, by simp, fun k hk _ => Below.heap_alloc _ _ _ hk⟩
theorem Chg.setCell (h : Chg B C a w) {p : Addr} (hp : (B ≤ p.block ∧ p.block < C) ∨ a.heap.size ≤ p.block) (u : Value) : Chg B C a (w.setCell p u) := by
  refine ⟨h.os, h.tape, h.output, by simpa [World.setCell] using h.size, fun k hk hh => ?_⟩
  rw [Below.heap_setCell _ _ _ _ (by omega)]
  exact h.block k hk hh
theorem Chg.of_below (h : Below w.heap.size w w') : Chg B C w w' := ⟨h.os, h.tape, h.output, h.size, fun k hk _ => h.block k hk⟩
theorem Chg.of_grown {row : Option Nat} (h : w.grownBy w' row) (hr : ∀ g, row = some g → B ≤ g ∧ g < C) : Chg B C w w' :=
  ⟨h.os, h.tape, h.output, h.size, fun k hk hh => h.block k hk (fun e => by have := hr k e.symm; omega)⟩
/-- Behind a call that may have changed blocks from B to C: what lies below X is as it was, X not above B. -/
theorem bel_chg (h : Below X a w) (k : Chg B C w w') (hX : X ≤ w.heap.size) (hB : X ≤ B ∨ C ≤ B) : Below X a w' :=
  h.trans ⟨k.os, k.tape, k.output, k.size, fun i hi => k.block i (by omega) (by omega)⟩
theorem bel_new (h : Below X a w) (k : Below w.heap.size w w') (hX : X ≤ w.heap.size) : Below X a w' := h.trans (k.mono hX)
end

theorem bcell {W w1 : World} (hb : Below W.heap.size W w1) : (∀ b o, b < W.heap.size → w1.cell? ⟨b, o, none⟩ = W.cell? ⟨b, o, none⟩) ∧ (∀ b o, b < W.heap.size → w1.frozen? ⟨b, o, none⟩ = W.frozen? ⟨b, o, none⟩) :=
  ⟨fun b o h => hb.cell (p := ⟨b, o, none⟩) h, fun b o h => hb.frozen (p := ⟨b, o, none⟩) h⟩

/-- The slice value v has one-cell elements of type e: the list xs; it is nil, or begins a block of its own whose number is from B to C (C not included). -/
def Own (w : World) (B C : Nat) (e : TypeId) (v : Value) (xs : List Value) : Prop :=
  w.ownsRow B e 1 v xs.length xs ∧ ∀ g, v.ownBlock = some g → g < C

section
variable {B C B' C' X : Nat} {w w' a : World} {e : TypeId} {v : Value} {xs : List Value}
theorem Own.nil (w : World) (B C : Nat) (e : TypeId) : Own w B C e (.slice none 0 0) [] := ⟨World.ownsRow_nil w B e 1, fun g h => by simp [Value.ownBlock] at h⟩
theorem Own.cases (h : Own w B C e v xs) : (v = .slice none 0 0 ∧ xs = []) ∨
    ∃ g cap cur, v = .slice (some ⟨g, 0, none⟩) xs.length cap ∧ B ≤ g ∧ g < C ∧ g < w.heap.size ∧ w.heap[g]? = some (.cells cur e (0, 0)) ∧ xs.length ≤ cap ∧ cap ≤ maxLen ∧ cur.size = cap ∧ cur.toList.take xs.length = xs := by
  obtain ⟨⟨h1, h2⟩, h3⟩ := h
  rcases h2 with ⟨rfl, h0⟩ | ⟨g, cap, cur, rfl, hb, hh, hn, hm, hs, ht⟩
  · exact .inl ⟨rfl, List.eq_nil_of_length_eq_zero h0⟩
  · refine .inr ⟨g, cap, cur, rfl, hb, h3 g rfl, ?_, hh, hn, hm, by omega, by simpa using ht⟩
    rcases Nat.lt_or_ge g w.heap.size with hlt | hge
    · exact hlt
    · rw [Array.getElem?_eq_none hge] at hh; cases hh
theorem Own.mk' {g cap : Nat} {cur : Array Value} (hB : B ≤ g) (hC : g < C) (hh : w.heap[g]? = some (.cells cur e (0, 0))) (hn : xs.length ≤ cap) (hm : cap ≤ maxLen) (hs : cur.size = cap) (ht : cur.toList.take xs.length = xs) :
    Own w B C e (.slice (some ⟨g, 0, none⟩) xs.length cap) xs :=
  ⟨⟨by simp, .inr ⟨g, cap, cur, rfl, hB, hh, hn, hm, by omega, by simpa using ht⟩⟩, fun g' h => by simp [Value.ownBlock] at h; omega⟩
theorem Own.shape (h : Own w B C e v xs) : ∃ A cap, v = .slice A xs.length cap ∧ Own w B C e (.slice A xs.length cap) xs := by
  rcases h.cases with ⟨rfl, rfl⟩ | ⟨g, cap, _, rfl, _⟩
  · exact ⟨none, 0, rfl, h⟩
  · exact ⟨_, cap, rfl, h⟩
theorem Own.wide (h : Own w B C e v xs) (hB : B' ≤ B) (hC : C ≤ C') : Own w B' C' e v xs := by
  rcases h.cases with ⟨rfl, rfl⟩ | ⟨g, cap, cur, rfl, h1, h2, h3, h4, h5, h6, h7, h8⟩
  · exact Own.nil _ _ _ _
  · exact Own.mk' (by omega) (by omega) h4 h5 h6 h7 h8
theorem Own.keep (h : Own w B C e v xs) (hk : ∀ k, k < w.heap.size → B ≤ k → k < C → w'.heap[k]? = w.heap[k]?) : Own w' B C e v xs := by
  rcases h.cases with ⟨rfl, rfl⟩ | ⟨g, cap, cur, rfl, h1, h2, h3, h4, h5, h6, h7, h8⟩
  · exact Own.nil _ _ _ _
  · exact Own.mk' h1 h2 ((hk g h3 h1 h2).trans h4) h5 h6 h7 h8
theorem Own.below (h : Own w B C e v xs) (hb : Below w.heap.size w w') : Own w' B C e v xs := h.keep fun k hk _ _ => hb.block k hk
theorem Own.chg (h : Own w B C e v xs) (hc : Chg B' C' w w') (hd : C ≤ B' ∨ C' ≤ B) : Own w' B C e v xs := h.keep fun k hk h1 h2 => hc.block k hk (by omega)
theorem Own.drew (h : Own w B C e v xs) : Own w.drew B C e v xs := h
theorem Own.drewN (h : Own w B C e v xs) (n : Nat) : Own (w.drewN n) B C e v xs := h
theorem Own.alloc (h : Own w B C e v xs) (o : Obj) : Own (w.alloc o) B C e v xs := h.keep fun _ hk _ _ => Below.heap_alloc _ _ _ hk
theorem Own.setCell (h : Own w B C e v xs) {p : Addr} (hp : p.block < B ∨ C ≤ p.block) (u : Value) : Own (w.setCell p u) B C e v xs := h.keep fun _ _ _ _ => Below.heap_setCell _ _ _ _ (by omega)
/-- Whatever lies in a heap lies below its size. -/
theorem Own.top (h : Own w B C e v xs) : Own w B w.heap.size e v xs := by
  rcases h.cases with ⟨rfl, rfl⟩ | ⟨g, cap, cur, rfl, h1, h2, h3, h4, h5, h6, h7, h8⟩
  · exact Own.nil _ _ _ _
  · exact Own.mk' h1 h3 h4 h5 h6 h7 h8
theorem Own.at_ (h : Own w B C e v xs) {k : Nat} (hk : k < xs.length) : ∃ g cap, v = .slice (some ⟨g, 0, none⟩) xs.length cap ∧ B ≤ g ∧ g < C ∧ g < w.heap.size ∧ w.cell? ⟨g, k, none⟩ = xs[k]? ∧ w.frozen? ⟨g, k, none⟩ = false := by
  rcases h.cases with ⟨rfl, rfl⟩ | ⟨g, cap, cur, rfl, h1, h2, h3, h4, h5, h6, h7, h8⟩
  · simp at hk
  · refine ⟨g, cap, rfl, h1, h2, h3, ?_, by simp [World.frozen?, h4]⟩
    have e1 : xs[k]? = (cur.toList.take xs.length)[k]? := by rw [h8]
    rw [cell_of_row w g k cur e (0, 0) h4, e1, List.getElem?_take, if_pos hk, Array.getElem?_toList]
theorem Own.at2 {A : Option Addr} {n c k : Nat} (h : Own w B C e (.slice A n c) xs) (hk : k < xs.length) : ∃ g, A = some ⟨g, 0, none⟩ ∧ B ≤ g ∧ g < C ∧ g < w.heap.size ∧ w.cell? ⟨g, k, none⟩ = some (xs[k]'hk) ∧ w.frozen? ⟨g, k, none⟩ = false := by
  obtain ⟨g, cap, hv, h1, h2, h3, h4, h5⟩ := h.at_ hk
  injection hv with hv1
  exact ⟨g, hv1, h1, h2, h3, by rw [h4, List.getElem?_eq_getElem hk], h5⟩
theorem Own.at3 {g n c k : Nat} (h : Own w B C e (.slice (some ⟨g, 0, none⟩) n c) xs) (hk : k < xs.length) : B ≤ g ∧ g < C ∧ g < w.heap.size ∧ w.cell? ⟨g, k, none⟩ = some (xs[k]'hk) ∧ w.frozen? ⟨g, k, none⟩ = false := by
  obtain ⟨g', hg, h1, h2, h3, h4, h5⟩ := h.at2 hk
  injection hg with hg
  injection hg with hg
  subst hg
  exact ⟨h1, h2, h3, h4, h5⟩
/-- A store into element k. -/
theorem Own.set_ {g cap k : Nat} (h : Own w B C e (.slice (some ⟨g, 0, none⟩) xs.length cap) xs) (_hk : k < xs.length) (u : Value) : Own (w.setCell ⟨g, k, none⟩ u) B C e (.slice (some ⟨g, 0, none⟩) (xs.set k u).length cap) (xs.set k u) := by
  rcases h.cases with ⟨hv, rfl⟩ | ⟨g', cap', cur, hv, h1, h2, h3, h4, h5, h6, h7, h8⟩
  · cases hv
  · injection hv with hv1 _ hv2
    injection hv1 with hv1
    injection hv1 with hv1
    subst hv1; subst hv2
    refine Own.mk' (cur := cur.setIfInBounds k u) h1 h2 ?_ (by simpa using h5) h6 (by simpa using h7) ?_
    · simp [World.setCell, Array.getElem?_modify, h4]
    · rw [Array.toList_setIfInBounds, List.length_set, List.take_set, h8]
theorem Own.len (h : Own w B C e v xs) : xs.length ≤ maxLen := by
  rcases h.cases with ⟨rfl, rfl⟩ | ⟨g, cap, cur, rfl, h1, h2, h3, h4, h5, h6, h7, h8⟩
  · simp [maxLen]
  · omega
end

theorem cell_lt {w : World} {p : Addr} {u : Value} (h : w.cell? p = some u) : p.block < w.heap.size := by
  rcases Nat.lt_or_ge p.block w.heap.size with hlt | hge
  · exact hlt
  · have : w.heap[p.block]? = none := Array.getElem?_eq_none hge
    simp [World.cell?, this] at h
theorem block_add (a : Addr) (n : Nat) : (a.add n).block = a.block := by unfold Addr.add; split <;> rfl
theorem add_add (a : Addr) (i j : Nat) : (a.add i).add j = a.add (i + j) := by
  unfold Addr.add
  by_cases hi : i = 0 <;> by_cases hj : j = 0 <;> simp [hi, hj, Nat.add_assoc]

/-- The slice '.slice A xs.length c' reads as xs (one-cell elements), and lies in a block from L to H (H not included). -/
def Rd (w : World) (L H : Nat) (A : Option Addr) (xs : List Value) : Prop :=
  0 < xs.length → ∃ ad, A = some ad ∧ L ≤ ad.block ∧ ad.block < H ∧ ∀ j u, xs[j]? = some u → w.cell? (ad.add j) = some u

section
variable {L H L' H' X : Nat} {w w' a : World} {A : Option Addr} {e : TypeId} {v : Value} {xs : List Value}
theorem Rd.nil (w : World) (L H : Nat) (A : Option Addr) : Rd w L H A [] := fun h => absurd h (by simp)
theorem Rd.at_ {k : Nat} (h : Rd w L H A xs) (hk : k < xs.length) : ∃ ad, A = some ad ∧ L ≤ ad.block ∧ ad.block < H ∧ w.cell? (ad.add k) = some xs[k] := by
  obtain ⟨ad, e, hl, hb, hc⟩ := h (by omega)
  exact ⟨ad, e, hl, hb, hc k _ (List.getElem?_eq_getElem hk)⟩
theorem Rd.cells {ad : Addr} (h : Rd w L H (some ad) xs) : ∀ j u, xs[j]? = some u → w.cell? (ad.add j) = some u := fun j u hu => by
  obtain ⟨ad', e, _, _, hc⟩ := h (by have := (List.getElem?_eq_some_iff.1 hu).1; omega)
  injection e with e
  subst e
  exact hc j u hu
theorem Rd.wide (h : Rd w L H A xs) (hL : L' ≤ L) (hH : H ≤ H') : Rd w L' H' A xs := fun hn => by
  obtain ⟨ad, e, hl, hb, hc⟩ := h hn
  exact ⟨ad, e, by omega, by omega, hc⟩
theorem Rd.top (h : Rd w L H A xs) : Rd w L w.heap.size A xs := fun hn => by
  obtain ⟨ad, e, hl, hb, hc⟩ := h hn
  have := cell_lt (hc 0 _ (List.getElem?_eq_getElem hn))
  rw [block_add] at this
  exact ⟨ad, e, hl, this, hc⟩
theorem Rd.keep (h : Rd w L H A xs) (hk : ∀ k, k < w.heap.size → L ≤ k → k < H → w'.heap[k]? = w.heap[k]?) : Rd w' L H A xs := fun hn => by
  obtain ⟨ad, e, hl, hb, hc⟩ := h hn
  refine ⟨ad, e, hl, hb, fun j u hu => ?_⟩
  have hj := hc j u hu
  have hlt := cell_lt hj
  rw [World.cell?_of_block (w := w)]
  · exact hj
  · have := hk (ad.add j).block hlt (by rw [block_add]; exact hl) (by rw [block_add]; exact hb)
    exact this
theorem Rd.below (h : Rd w L H A xs) (hb : Below w.heap.size w w') : Rd w' L H A xs := h.keep fun k hk _ _ => hb.block k hk
theorem Rd.chg (h : Rd w L H A xs) (hc : Chg L' H' w w') (hd : H ≤ L' ∨ H' ≤ L) : Rd w' L H A xs := h.keep fun k hk h1 h2 => hc.block k hk (by omega)
theorem Rd.drew (h : Rd w L H A xs) : Rd w.drew L H A xs := h
theorem Rd.drewN (h : Rd w L H A xs) (n : Nat) : Rd (w.drewN n) L H A xs := h
theorem Rd.alloc (h : Rd w L H A xs) (o : Obj) : Rd (w.alloc o) L H A xs := h.keep fun _ hk _ _ => Below.heap_alloc _ _ _ hk
theorem Rd.setCell (h : Rd w L H A xs) {p : Addr} (hp : p.block < L ∨ H ≤ p.block) (u : Value) : Rd (w.setCell p u) L H A xs := h.keep fun _ _ _ _ => Below.heap_setCell _ _ _ _ (by omega)
theorem Rd.take (h : Rd w L H A xs) (k : Nat) : Rd w L H A (xs.take k) := fun hn => by
  obtain ⟨ad, e, hl, hb, hc⟩ := h (by rw [List.length_take] at hn; omega)
  refine ⟨ad, e, hl, hb, fun j u hu => hc j u ?_⟩
  rw [List.getElem?_take] at hu
  split at hu
  · exact hu
  · cases hu
theorem Rd.drop (h : Rd w L H A xs) {k cap : Nat} (hc : xs.length ≤ cap) : Rd w L H (if cap = k then A else A.map (·.add k)) (xs.drop k) := fun hn => by
  rw [List.length_drop] at hn
  obtain ⟨ad, rfl, hl, hb, hcell⟩ := h (by omega)
  rw [if_neg (by omega)]
  refine ⟨ad.add k, rfl, by rw [block_add]; exact hl, by rw [block_add]; exact hb, fun j u hu => ?_⟩
  rw [add_add]
  exact hcell _ u (by rw [← hu, List.getElem?_drop])
theorem Own.rd {n c : Nat} (h : Own w L H e (.slice A n c) xs) : Rd w L H A xs := fun hn => by
  obtain ⟨g, rfl, h1, h2, _⟩ := h.at2 hn
  refine ⟨_, rfl, h1, h2, fun j u hu => ?_⟩
  have hj : j < xs.length := (List.getElem?_eq_some_iff.1 hu).1
  obtain ⟨_, _, _, hc, _⟩ := h.at3 hj
  have e1 : (⟨g, 0, none⟩ : Addr).add j = ⟨g, j, none⟩ := by unfold Addr.add; split <;> simp_all
  rw [e1, hc, ← hu, List.getElem?_eq_getElem hj]
end

/-- A local variable: block N holds just the cells cs. -/
def Loc (w : World) (N : Nat) (cs : Array Value) : Prop := N < w.heap.size ∧ ∀ j, w.cell? ⟨N, j, none⟩ = cs[j]?
section
variable {w w' : World} {N B C : Nat} {cs : Array Value}
theorem Loc.new (w : World) (cs : Array Value) (t : TypeId) : Loc (w.alloc (.cells cs t)) w.heap.size cs := ⟨by simp, fun j => by simp⟩
theorem Loc.below (h : Loc w N cs) (hb : Below w.heap.size w w') : Loc w' N cs :=
  ⟨Nat.lt_of_lt_of_le h.1 hb.size, fun j => (hb.cell (p := ⟨N, j, none⟩) h.1).trans (h.2 j)⟩
theorem Loc.alloc (h : Loc w N cs) (o : Obj) : Loc (w.alloc o) N cs :=
  ⟨by have := h.1; simp; omega, fun j => (World.cell?_alloc_lt w o ⟨N, j, none⟩ h.1).trans (h.2 j)⟩
theorem Loc.drewN (h : Loc w N cs) (n : Nat) : Loc (w.drewN n) N cs := h
theorem Loc.drew (h : Loc w N cs) : Loc w.drew N cs := h
theorem Loc.chg (h : Loc w N cs) (hc : Chg B C w w') (hd : N < B ∨ C ≤ N) : Loc w' N cs :=
  ⟨Nat.lt_of_lt_of_le h.1 hc.size, fun j => by
    rw [World.cell?_of_block (w := w) (a := ⟨N, j, none⟩) (hc.block N h.1 hd)]
    exact h.2 j⟩
end

/-- A list of integers as cells. -/
def ints (k : IntKind) (zs : List Int) : List Value := zs.map (Value.int k)
theorem length_ints (k : IntKind) (zs : List Int) : (ints k zs).length = zs.length := by simp [ints]
theorem ints_get (k : IntKind) (zs : List Int) (j : Nat) (h : j < (ints k zs).length) : (ints k zs)[j] = .int k (zs[j]'(by simpa [ints] using h)) := by simp [ints]
/-- A list of strings as cells. -/
def strs (zs : List ByteArray) : List Value := zs.map Value.string
theorem length_strs (zs : List ByteArray) : (strs zs).length = zs.length := by simp [strs]
theorem strs_get (zs : List ByteArray) (j : Nat) (h : j < (strs zs).length) : (strs zs)[j] = .string (zs[j]'(by simpa [strs] using h)) := by simp [strs]
theorem ints_one (k : IntKind) (zs : List Int) : ∀ u ∈ ints k zs, u.oneCell' = true := ints_oneCell k zs
theorem strs_one (zs : List ByteArray) : ∀ u ∈ strs zs, u.oneCell' = true := by
  intro u hu
  obtain ⟨s, _, rfl⟩ := List.mem_map.1 hu
  rfl
end Go.Proofs.YtejhpkcoeakegaaDoor

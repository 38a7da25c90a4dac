/-
  A local array: a block that holds just a list of cells. No program in sight.
-/
import Derived.Test.YtejhpkcoeakegaaDoorApp
import Derived.Laws.Tables
import Derived.Laws.CopyOwn
namespace Go.Proofs.YtejhpkcoeakegaaDoor
set_option linter.unusedVariables false
open Go.RowKit

/-- Block N holds just the cells cs, none of them frozen. -/
def Arr (w : World) (N : Nat) (t : TypeId) (cs : List Value) : Prop := w.heap[N]? = some (.cells cs.toArray t (0, 0))
section
variable {w w' a : World} {N B C : Nat} {t : TypeId} {cs : List Value}
theorem Arr.lt (h : Arr w N t cs) : N < w.heap.size := by
  rcases Nat.lt_or_ge N w.heap.size with hlt | hge
  · exact hlt
  · unfold Arr at h
    rw [Array.getElem?_eq_none hge] at h; cases h
theorem Arr.cell (h : Arr w N t cs) {k : Nat} (hk : k < cs.length) : w.cell? ⟨N, k, none⟩ = some cs[k] := by
  rw [cell_of_row w N k cs.toArray t (0, 0) h]
  simp [hk]
theorem Arr.free (h : Arr w N t cs) (k : Nat) : w.frozen? ⟨N, k, none⟩ = false := by
  unfold Arr at h
  simp [World.frozen?, h]
theorem Arr.keep (h : Arr w N t cs) (hk : w'.heap[N]? = w.heap[N]?) : Arr w' N t cs := hk.trans h
theorem Arr.below (h : Arr w N t cs) (hb : Below w.heap.size w w') : Arr w' N t cs := h.keep (hb.block N h.lt)
theorem Arr.chg (h : Arr w N t cs) (hc : Chg B C w w') (hd : N < B ∨ C ≤ N) : Arr w' N t cs := h.keep (hc.block N h.lt hd)
theorem Arr.drew (h : Arr w N t cs) : Arr w.drew N t cs := h
theorem Arr.drewN (h : Arr w N t cs) (n : Nat) : Arr (w.drewN n) N t cs := h
theorem Arr.alloc (h : Arr w N t cs) (o : Obj) : Arr (w.alloc o) N t cs := h.keep (Below.heap_alloc _ _ _ h.lt)
theorem Arr.new (w : World) (cs : List Value) (t : TypeId) : Arr (w.alloc (.cells cs.toArray t)) w.heap.size t cs := heap_alloc_new w _
theorem Arr.new_ {w : World} {N : Nat} (hN : N = w.heap.size) (cs : List Value) (t : TypeId) : Arr (w.alloc (.cells cs.toArray t)) N t cs := hN ▸ heap_alloc_new w _
theorem Arr.setCell (h : Arr w N t cs) {p : Addr} (hp : p.block ≠ N) (u : Value) : Arr (w.setCell p u) N t cs := h.keep (Below.heap_setCell _ _ _ _ (by omega))
theorem Arr.set_ (h : Arr w N t cs) (k : Nat) (u : Value) : Arr (w.setCell ⟨N, k, none⟩ u) N t (cs.set k u) := by
  unfold Arr at *
  simp [World.setCell, Array.getElem?_modify, h]
theorem Arr.setRow (h : Arr w N t cs) (cs' : List Value) : Arr (w.setRow N cs'.toArray) N t cs' := setRow_heap w N _ _ t _ h
theorem Arr.setRow_other (h : Arr w N t cs) {M : Nat} (hM : N ≠ M) (c : Array Value) : Arr (w.setRow M c) N t cs := h.keep (Go.setRow_other w M N c hM)
theorem Arr.rd (h : Arr w N t cs) : Rd w N (N + 1) (some ⟨N, 0, none⟩) cs := fun _ => by
  refine ⟨_, rfl, Nat.le_refl _, by simp, fun j u hu => ?_⟩
  obtain ⟨hj, rfl⟩ := List.getElem?_eq_some_iff.1 hu
  have e1 : (⟨N, 0, none⟩ : Addr).add j = ⟨N, j, none⟩ := by unfold Addr.add; split <;> simp_all
  rw [e1, h.cell hj]
end
/-- A whole array is read. -/
theorem wpList_load_arr {P : Program} {ops : Array Oper} {rest : List Oper} {o : Oper} {a : Act} {w : World} {Q : Exit → Act → World → Prop} (hgd : o.guard = none) (ty : TypeId) (x : Operand) (ho : o.op = .load ty x)
    (N : Nat) (hx : a.eval x = .pointer (some ⟨N, 0, none⟩)) (t : TypeId) (cs : List Value) (n : Nat) (e : TypeId) (hA : Arr w N t cs) (hu : P.underlying ty = some (.array n e)) (hi : (P.info? ty).map (·.size) = some cs.length)
    (h : wpList P ops Q rest (a.put o.dst (.agg cs.toArray)) w) : wpList P ops Q (o :: rest) a w :=
  wpList_load_row hgd ty x ho N hx t cs.toArray (0, 0) _ hA hu rfl (by simpa using hi) h
/-- A whole array is written. -/
theorem wpList_store_arr {P : Program} {ops : Array Oper} {rest : List Oper} {o : Oper} {a : Act} {w : World} {Q : Exit → Act → World → Prop} (hgd : o.guard = none) (ty : TypeId) (x y : Operand) (ho : o.op = .store ty x y)
    (N : Nat) (cs : List Value) (hx : a.eval x = .pointer (some ⟨N, 0, none⟩)) (hy : a.eval y = .agg cs.toArray) (t : TypeId) (old : List Value) (hA : Arr w N t old) (hi : (P.info? ty).map (·.size) = some cs.length)
    (hl : old.length = cs.length) (h1 : ∀ u ∈ cs, u.oneCell' = true)
    (h : wpList P ops Q rest (a.put o.dst undef) (w.setRow N cs.toArray)) : wpList P ops Q (o :: rest) a w :=
  wpList_plain hgd fun _ hK => wp_store_row ty x y ho N cs.toArray hx hy t old.toArray hA (by simpa using hi) (by simpa using hl)
    (Array.all_eq_true_iff_forall_mem.2 fun u hu => h1 u (by simpa using hu)) (hK _ _ h)
/-- A result that is an array. -/
theorem results_arr {P : Program} {fn : Func} {p : Tmp} {ty : TypeId} (h : fn.results = #[.cell p ty]) {tmps : Array Value} {w : World} {N : Nat} {t : TypeId} {cs : List Value} {n : Nat} {e : TypeId}
    (hp : tmps.getD p undef = .pointer (some ⟨N, 0, none⟩)) (hA : Arr w N t cs) (hu : P.underlying ty = some (.array n e)) (hi : (P.info? ty).map (·.size) = some cs.length) :
    (results fn tmps).run P w = .ok (.agg cs.toArray) w :=
  results_cell_row h tmps w N t cs.toArray (0, 0) _ hp hA hu rfl (by simpa using hi)
end Go.Proofs.YtejhpkcoeakegaaDoor

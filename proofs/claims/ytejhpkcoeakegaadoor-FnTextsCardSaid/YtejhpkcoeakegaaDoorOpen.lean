/-
  Arguments that came in, opened: a slice of integers or of strings as 'Rd', a struct of five one-cell fields. No program in sight.
-/
import Derived.Test.YtejhpkcoeakegaaDoorBase
import Derived.ProofKit
import Derived.OpenShut
import Derived.SliceStrings
import Derived.Lib.SmallJoins
import Derived.Deep.Slices
import Derived.Deep.Fields
namespace Go.Proofs.YtejhpkcoeakegaaDoor
set_option linter.unusedVariables false
open Go.Joins Go.ChangeShapes Go.WideShapes Go.RowKit Go.Deep

theorem ints_getD (k : IntKind) (zs : List Int) (n : Nat) (j : Nat) (u : Value) (h : (ints k (zs.take n))[j]? = some u) : j < zs.length ∧ u = .int k (zs.getD j 0) := by
  unfold ints at h
  rw [List.getElem?_map] at h
  obtain ⟨x, hx, rfl⟩ := Option.map_eq_some_iff.1 h
  rw [List.getElem?_take] at hx
  split at hx
  · have hj := (List.getElem?_eq_some_iff.1 hx).1
    refine ⟨hj, ?_⟩
    simp [List.getD, hx]
  · cases hx
theorem strs_getD (zs : List ByteArray) (n : Nat) (j : Nat) (u : Value) (h : (strs (zs.take n))[j]? = some u) : j < zs.length ∧ u = .string (zs.getD j ByteArray.empty) := by
  unfold strs at h
  rw [List.getElem?_map] at h
  obtain ⟨x, hx, rfl⟩ := Option.map_eq_some_iff.1 h
  rw [List.getElem?_take] at hx
  split at hx
  · have hj := (List.getElem?_eq_some_iff.1 hx).1
    refine ⟨hj, ?_⟩
    simp [List.getD, hx]
  · cases hx

section
variable {H : Type} {enc : TypeId × Value → H} {P : Program} {w : World} {base : Nat} {spare : Nat → Bool} {held : Bool}
theorem rd_ints {t e : TypeId} {k : IntKind} {fuel : Nat} {v : Value} {x : DataW H × List MemPlace} (ht : P.underlying t = some (.slice e)) (he : P.underlying e = some (.int k)) (hc : P.cellsOf e = 1)
    (h : DataW.trod enc P w 0 (fun _ => true) true fuel t [v] = some x) :
    ∃ (A : Option Addr) (cap : Nat) (zs : List Int), v = .slice A zs.length cap ∧ Rd w 0 w.heap.size A (ints k zs) ∧ (zs.length ≤ cap ∧ cap ≤ maxLen) ∧ ∀ n ∈ zs, (Lit.int k n).wf = true := by
  rcases open_ints ht he hc h with ⟨hcs, _⟩ | ⟨a, len, cap, zs, hcs, _, hl, hm, hz, _, hcell, hwz⟩
  · simp at hcs
    exact ⟨none, 0, [], by simpa using hcs, Rd.nil _ _ _ _, by simp, by simp⟩
  · simp at hcs hz
    refine ⟨some a, cap, zs.take len, by rw [List.length_take, hz, Nat.min_eq_left hl]; exact hcs, ?_, ⟨by rw [List.length_take]; omega, hm⟩, fun n hn => hwz n (List.mem_of_mem_take hn)⟩
    refine (show Rd w 0 (a.block + 1) (some a) (ints k (zs.take len)) from fun _ => ⟨a, rfl, Nat.zero_le _, by omega, fun j u hu => ?_⟩).top
    obtain ⟨hj, rfl⟩ := ints_getD k zs len j u hu
    exact hcell j hj
theorem rd_strs {t e : TypeId} {fuel : Nat} {v : Value} {x : DataW H × List MemPlace} (ht : P.underlying t = some (.slice e)) (he : P.underlying e = some .string) (hc : P.cellsOf e = 1)
    (h : DataW.trod enc P w 0 (fun _ => true) true fuel t [v] = some x) :
    ∃ (A : Option Addr) (cap : Nat) (zs : List ByteArray), v = .slice A zs.length cap ∧ Rd w 0 w.heap.size A (strs zs) ∧ (zs.length ≤ cap ∧ cap ≤ maxLen) ∧ ∀ s ∈ zs, s.size ≤ maxLen := by
  rcases open_strings ht he hc h with ⟨hcs, _⟩ | ⟨a, len, cap, zs, hcs, _, hl, hm, hz, _, hcell, hwz⟩
  · simp at hcs
    exact ⟨none, 0, [], by simpa using hcs, Rd.nil _ _ _ _, by simp, by simp⟩
  · simp at hcs hz
    refine ⟨some a, cap, zs.take len, by rw [List.length_take, hz, Nat.min_eq_left hl]; exact hcs, ?_, ⟨by rw [List.length_take]; omega, hm⟩, fun n hn => hwz n (List.mem_of_mem_take hn)⟩
    refine (show Rd w 0 (a.block + 1) (some a) (strs (zs.take len)) from fun _ => ⟨a, rfl, Nat.zero_le _, by omega, fun j u hu => ?_⟩).top
    obtain ⟨hj, rfl⟩ := strs_getD zs len j u hu
    exact hcell j hj

theorem open_agg5 {r : Reach} {b0 : Nat} {t : TypeId} {f0 f1 f2 f3 f4 : Field} {v : Value} {d : DataW H} {p : List MemPlace} (hs : P.underlying t = some (.struct #[f0, f1, f2, f3, f4])) (hone : oneCellFields P #[f0, f1, f2, f3, f4] = true) (hC : P.cellsOf t = 5)
    (hv : Value.okWide P w r b0 t v) (h : DataW.Trod enc P w base spare held t v d p) :
    ∃ (v0 v1 v2 v3 v4 : Value) (y0 y1 y2 y3 y4 : DataW H × List MemPlace) (n : Nat), v = .agg #[v0, v1, v2, v3, v4] ∧
      DataW.trod enc P w base spare held n f0.type [v0] = some y0 ∧ DataW.trod enc P w base spare held n f1.type [v1] = some y1 ∧ DataW.trod enc P w base spare held n f2.type [v2] = some y2 ∧ DataW.trod enc P w base spare held n f3.type [v3] = some y3 ∧ DataW.trod enc P w base spare held n f4.type [v4] = some y4 := by
  obtain ⟨cs, rfl, hsz⟩ := okWide_struct hs hv
  obtain ⟨l⟩ := cs
  match l, hsz.trans hC with
  | [c0, c1, c2, c3, c4], _ =>
    obtain ⟨fuel, hf⟩ := h
    obtain ⟨xs, n, _, hx, _, hlen, hg⟩ := DataW.trod_struct hs hf
    obtain ⟨o0, k0⟩ := hone_of hone 0 f0 rfl
    obtain ⟨o1, k1⟩ := hone_of hone 1 f1 rfl
    obtain ⟨o2, k2⟩ := hone_of hone 2 f2 rfl
    obtain ⟨o3, k3⟩ := hone_of hone 3 f3 rfl
    obtain ⟨o4, k4⟩ := hone_of hone 4 f4 rfl
    match xs, hlen with
    | [y0, y1, y2, y3, y4], _ =>
      exact ⟨c0, c1, c2, c3, c4, y0, y1, y2, y3, y4, n, rfl, by simpa [Value.cells, o0, k0] using hg 0 f0 rfl, by simpa [Value.cells, o1, k1] using hg 1 f1 rfl, by simpa [Value.cells, o2, k2] using hg 2 f2 rfl, by simpa [Value.cells, o3, k3] using hg 3 f3 rfl, by simpa [Value.cells, o4, k4] using hg 4 f4 rfl⟩
end
end Go.Proofs.YtejhpkcoeakegaaDoor

/-
  The walks of MixIn, the program's and the reference's.
-/
import Derived.Test.YtejhpkcoeakegaaDoorMix
import Derived.Deep.MidRow
import Derived.Deep.RegionHeld3
namespace Go.Proofs.YtejhpkcoeakegaaDoor
set_option linter.unusedVariables false
open Go.RowKit

theorem Own.range {w : World} {B C : Nat} {e : TypeId} {g n c : Nat} {xs : List Value} (h : Own w B C e (.slice (some ⟨g, 0, none⟩) n c) xs) : w.rangeAt g 0 xs := fun j v hv => by
  obtain ⟨hj, rfl⟩ := List.getElem?_eq_some_iff.1 hv
  rw [Nat.zero_add]
  exact (h.at3 hj).2.2.2.1
theorem wpStill_load_mid {P : Program} {ops : Array Oper} {rest : List Oper} {o : Oper} {a : Act} {w : World} {Q : Act → Prop} (hgd : o.guard = none) (ty : TypeId) (x : Operand) (ho : o.op = .load ty x)
    (b off : Nat) (cs : List Value) (d : TypeDesc) (hx : a.eval x = .pointer (some ⟨b, off, none⟩)) (hc : w.rangeAt b off cs) (hu : P.underlying ty = some d) (hd : d.isRow = true)
    (hi : (P.info? ty).map (·.size) = some cs.length) (h : wpStill P ops w Q rest (a.put o.dst (.agg cs.toArray))) : wpStill P ops w Q (o :: rest) a := by
  refine wpStill_step fun K hK => ?_
  have hw : Region.wanted o (yielded ops a.tmps) = true := by simp [Region.wanted, hgd]
  rw [if_pos hw]
  unfold Oper.still execOp
  simp only [ho, hx, Instr.loadAt, Instr.sureAddr, Sem.run_bind, Sem.run_pure, Result.andThen_ok, run_loadVar_mid w b off ty cs d hc hu hd hi]
  exact ⟨rfl, hK _ h⟩
theorem run_arrayAt {P : Program} {T : TypeId} {n : Nat} {e : TypeId} (hu : P.underlying T = some (.array n e)) (a : Option Addr) (len cap : Nat) (h : n ≤ len) (hp : 0 < n) (w : World) : (Instr.arrayAt T (.slice a len cap)).run P w = .ok (.pointer a) w := by
  unfold Instr.arrayAt
  simp [Sem.run_bind, run_underlying hu w]
  exact fun h' => absurd h' (by omega)
theorem wpStill_arrayAt {P : Program} {ops : Array Oper} {rest : List Oper} {o : Oper} {a : Act} {w : World} {Q : Act → Prop} (hgd : o.guard = none) (ty : TypeId) (x : Operand) (ho : o.op = .sliceToArrayPointer ty x)
    (p : Option Addr) (len cap n : Nat) (e : TypeId) (hx : a.eval x = .slice p len cap) (hu : P.underlying ty = some (.array n e)) (hl : n ≤ len) (hp : 0 < n)
    (h : wpStill P ops w Q rest (a.put o.dst (.pointer p))) : wpStill P ops w Q (o :: rest) a := by
  refine wpStill_step fun K hK => ?_
  have hw : Region.wanted o (yielded ops a.tmps) = true := by simp [Region.wanted, hgd]
  rw [if_pos hw]
  unfold Oper.still execOp
  simp only [ho, hx, Sem.run_bind, Sem.run_pure, Result.andThen_ok, run_arrayAt hu p len cap hl hp w]
  exact ⟨rfl, hK _ h⟩
/-! A region that draws its order, taken by hand: what yields in every world that keeps the old blocks. -/
section
variable {P : Program} {ops : Array Oper} {S : World → Prop} {o : Oper} {a : Act}
theorem yieldsIf_move (hgd : o.guard = none) (x : Operand) (ho : o.op = .move x) {v : Value} (hx : a.eval x = v) : YieldsIf P ops S o v a :=
  .inl ⟨by simp [Region.wanted, hgd], fun w _ => by unfold execOp; simp only [ho, hx]; rfl⟩
theorem yieldsIf_array (hgd : o.guard = none) (ty : TypeId) (x : Operand) (ho : o.op = .sliceToArrayPointer ty x) {p : Option Addr} {len cap n : Nat} {e : TypeId} (hx : a.eval x = .slice p len cap) (hu : P.underlying ty = some (.array n e)) (hl : n ≤ len) (hp : 0 < n) : YieldsIf P ops S o (.pointer p) a :=
  .inl ⟨by simp [Region.wanted, hgd], fun w _ => by unfold execOp; simp only [ho, hx, Sem.run_bind, Sem.run_pure, Result.andThen_ok, run_arrayAt hu p len cap hl hp w]⟩
end
theorem take_first {P : Program} {ops : Array Oper} {Q : Exit → Act → World → Prop} {md : Region.Mode} {S : World → Prop} (i d : Nat) (v : Value) {oi : Oper} {fuel : Nat} {listed : Array Bool} {a : Act} {w : World} (hi : ops[i]? = some oi)
    (hs : Region.noSelect ops = true) (hf : Region.free md ops listed i = true) (hr : (Region.ready md ops listed).contains i = true)
    (hQ : ∀ c a w, Q (.panic c) (a.put oi.dst v) w → Q (.panic c) a w) (hd : oi.dst = some d) (hy : YieldsIf P ops S oi v a) (hS : S w)
    (h : wpAnyH P md ops Q S fuel (listed.setIfInBounds i true) (a.put (some d) v) w) : wpAnyH P md ops Q S (fuel + 1) listed a w :=
  wpAnyH_take hi hs hf hr hQ hy hS (by rw [hd]; exact h)
theorem range_below {w w1 : World} {b o B : Nat} {cs : List Value} (h : w.rangeAt b o cs) (hB : b < B) (hb : Below B w w1) : w1.rangeAt b o cs := fun j v hv => by
  have hc := h j v hv
  rw [hb.cell (p := ⟨b, o + j, none⟩) hB]
  exact hc
def mixOk (s b : List Int) : Bool := decide (s.length = 8) && decide (b.length = 16)
def mixI (s b : List Int) : List Int := if mixOk s b then mixL s b else []
theorem mixI_len (s b : List Int) : (mixI s b).length ≤ 8 := by
  unfold mixI
  split
  · rw [length_mixL]; decide
  · simp
theorem mixOk_cases (s b : List Int) : (mixOk s b = true ∧ s.length = 8 ∧ b.length = 16 ∧ mixI s b = mixL s b) ∨ (mixOk s b = false ∧ mixI s b = [] ∧ (((s.length : Int) != 8) = true ∨ (((s.length : Int) != 8) = false ∧ ((b.length : Int) != 16) = true))) := by
  by_cases h1 : s.length = 8
  · by_cases h2 : b.length = 16
    · exact .inl ⟨by simp [mixOk, h1, h2], h1, h2, by simp [mixI, mixOk, h1, h2]⟩
    · exact .inr ⟨by simp [mixOk, h2], by simp [mixI, mixOk, h2], .inr ⟨by simp [h1], by simp; omega⟩⟩
  · exact .inr ⟨by simp [mixOk, h1], by simp [mixI, mixOk, h1], .inl (by simp; omega)⟩
end Go.Proofs.YtejhpkcoeakegaaDoor

/-
  append onto a slice that the call owns, in the words of Base: outside a region that draws its order, and inside one. No program in sight.
-/
import Derived.Test.YtejhpkcoeakegaaDoorBase
import Derived.Maps.AppendAt
import Derived.RegionTactic
namespace Go.Proofs.YtejhpkcoeakegaaDoor
set_option linter.unusedVariables false
open Go.RowKit

section
variable {P : Program} {w : World}
theorem own_app_run (t ty e : TypeId) (z : Value) (bytes : Nat) (ht : P.underlying t = some (.slice e)) (hinfo : (P.info? e).map (fun i => (i.zero, i.size, i.bytes)) = some (some z, 1, bytes)) (hz1 : z.cells.size = 1)
    (B : Nat) (v : Value) (xs : List Value) (hown : Own w B w.heap.size e v xs) (ad : Addr) (m c : Nat) (news : List Value) (hl : news.length = m) (hnews : ∀ j u, news[j]? = some u → w.cell? (ad.add j) = some u)
    (h1 : ∀ u ∈ news, u.oneCell' = true) (hlen : xs.length + m ≤ 1099511627776) (hb : bytes ≤ 64) (hB : B ≤ w.heap.size) :
    ∃ v' w', (Builtin.append_ #[t, t] ty #[v, .slice (some ad) m c]).run P w = .ok v' w' ∧ Own w' B w'.heap.size e v' (xs ++ news) ∧ Below B w w' ∧ w.grownBy w' v.ownBlock := by
  obtain ⟨i, hi, hz0, hs1, hs2⟩ := info_parts hinfo
  have hby : (xs.length + m) * bytes ≤ 140737488355328 := by
    have := Nat.mul_le_mul hlen hb
    omega
  obtain ⟨v', w', hrun, ho, hg, _, h5⟩ := run_append_own_at (P := P) w B t ty e i z 1 bytes ht hi hz0 hs1 hs2 hz1 (by omega) v xs.length xs hown.1 ad m c news (by omega) hnews h1 (by unfold maxLen; omega) hby hB
  refine ⟨v', w', hrun, ⟨?_, ?_⟩, ?_, hg⟩
  · have e1 : (xs ++ news).length = xs.length + m := by rw [List.length_append, hl]
    rw [e1]; exact ho
  · intro g hg'
    exact (ho.lt g hg').2
  · exact (Below.refl _ _).grown hg hB (fun k hk => (hown.1.lt k hk).1)

theorem wp_app {o : Oper} {a : Act} {K : Act → World → Prop} {Q : Exit → Act → World → Prop} (s x : Operand) (t : TypeId)
    (ho : o.op = .call { callee := .builtin .append, args := #[s, x], argTypes := #[t, t] })
    (e : TypeId) (z : Value) (bytes : Nat) (ht : P.underlying t = some (.slice e)) (hinfo : (P.info? e).map (fun i => (i.zero, i.size, i.bytes)) = some (some z, 1, bytes)) (hz1 : z.cells.size = 1)
    (B : Nat) (v : Value) (xs : List Value) (hs : a.eval s = v) (hown : Own w B w.heap.size e v xs) (ad : Addr) (m c : Nat) (news : List Value) (hx : a.eval x = .slice (some ad) m c) (hl : news.length = m) (hnews : ∀ j u, news[j]? = some u → w.cell? (ad.add j) = some u)
    (h1 : ∀ u ∈ news, u.oneCell' = true) (hlen : xs.length + m ≤ 1099511627776) (hb : bytes ≤ 64) (hB : B ≤ w.heap.size)
    (h : ∀ v' w', Own w' B w'.heap.size e v' (xs ++ news) → Below B w w' → w.grownBy w' v.ownBlock → K (a.put o.dst v') w') : o.wp P a w K Q := by
  obtain ⟨v', w', hrun, h2, h3, h4⟩ := own_app_run (P := P) t o.type e z bytes ht hinfo hz1 B v xs hown ad m c news hl hnews h1 hlen hb hB
  unfold Oper.wp execOp
  simp only [ho, resolve, invoke, builtin, Sem.run_bind, Sem.run_pure, Result.andThen_ok, List.map_toArray, List.map_cons, List.map_nil, hs, hx, hrun]
  exact h v' w' h2 h3 h4

theorem wpList_app {ops : Array Oper} {rest : List Oper} {o : Oper} {a : Act} {Q : Exit → Act → World → Prop} (hgd : o.guard = none) (s x : Operand) (t : TypeId)
    (ho : o.op = .call { callee := .builtin .append, args := #[s, x], argTypes := #[t, t] })
    (e : TypeId) (z : Value) (bytes : Nat) (ht : P.underlying t = some (.slice e)) (hinfo : (P.info? e).map (fun i => (i.zero, i.size, i.bytes)) = some (some z, 1, bytes)) (hz1 : z.cells.size = 1)
    (B : Nat) (v : Value) (xs : List Value) (hs : a.eval s = v) (hown : Own w B w.heap.size e v xs) (ad : Addr) (m c : Nat) (news : List Value) (hx : a.eval x = .slice (some ad) m c) (hl : news.length = m) (hnews : ∀ j u, news[j]? = some u → w.cell? (ad.add j) = some u)
    (h1 : ∀ u ∈ news, u.oneCell' = true) (hlen : xs.length + m ≤ 1099511627776) (hb : bytes ≤ 64) (hB : B ≤ w.heap.size)
    (h : ∀ v' w', Own w' B w'.heap.size e v' (xs ++ news) → Below B w w' → w.grownBy w' v.ownBlock → wpList P ops Q rest (a.put o.dst v') w') : wpList P ops Q (o :: rest) a w :=
  wpList_plain hgd fun _ hK => wp_app s x t ho e z bytes ht hinfo hz1 B v xs hs hown ad m c news hx hl hnews h1 hlen hb hB fun v' w' h2 h3 h4 => hK _ _ (h v' w' h2 h3 h4)

theorem step_app {ops : Array Oper} {o : Oper} {a : Act} {K : Act → World → Prop} {Q : Exit → Act → World → Prop} {E : Prop} (hgd : o.guard = none) (s x : Operand) (t : TypeId)
    (ho : o.op = .call { callee := .builtin .append, args := #[s, x], argTypes := #[t, t] })
    (e : TypeId) (z : Value) (bytes : Nat) (ht : P.underlying t = some (.slice e)) (hinfo : (P.info? e).map (fun i => (i.zero, i.size, i.bytes)) = some (some z, 1, bytes)) (hz1 : z.cells.size = 1)
    (B : Nat) (v : Value) (xs : List Value) (hs : a.eval s = v) (hown : Own w B w.heap.size e v xs) (ad : Addr) (m c : Nat) (news : List Value) (hx : a.eval x = .slice (some ad) m c) (hl : news.length = m) (hnews : ∀ j u, news[j]? = some u → w.cell? (ad.add j) = some u)
    (h1 : ∀ u ∈ news, u.oneCell' = true) (hlen : xs.length + m ≤ 1099511627776) (hb : bytes ≤ 64) (hB : B ≤ w.heap.size)
    (h : ∀ v' w', Own w' B w'.heap.size e v' (xs ++ news) → Below B w w' → w.grownBy w' v.ownBlock → K (a.put o.dst v') w') :
    if Region.wanted o (yielded ops a.tmps) = true then Oper.wp P o a w K Q else E := by
  have hw : Region.wanted o (yielded ops a.tmps) = true := by simp [Region.wanted, hgd]
  rw [if_pos hw]
  exact wp_app s x t ho e z bytes ht hinfo hz1 B v xs hs hown ad m c news hx hl hnews h1 hlen hb hB h
end

/-- 'make([]T, 0, n)'. -/
theorem wpList_mk0 {P : Program} {w : World} {ops : Array Oper} {rest : List Oper} {o : Oper} {a : Act} {Q : Exit → Act → World → Prop} (hg : o.guard = none) (l c : Operand) (t : TypeId) (hop : o.op = Op.makeSlice t l c)
    (e : TypeId) (z : Value) (bytes : Nat) (ht : P.underlying t = some (.slice e)) (hinfo : (P.info? e).map (fun i => (i.zero, i.size, i.bytes)) = some (some z, 1, bytes))
    (kl kc : IntKind) (C : Int) (n : Nat) (hl : a.eval l = .int kl 0) (hc : a.eval c = .int kc C) (hC : C = (n : Int)) (hb : bytes ≤ 64) (hn : n ≤ 1099511627776)
    (hK : ∀ w', Own w' w.heap.size w'.heap.size e (.slice (some ⟨w.heap.size, 0, none⟩) 0 n) [] → Below w.heap.size w w' → wpList P ops Q rest (a.put o.dst (.slice (some ⟨w.heap.size, 0, none⟩) 0 n)) w') :
    wpList P ops Q (o :: rest) a w := by
  obtain ⟨i, hi, hz0, hs1, hs2⟩ := info_parts hinfo
  refine wpList_make_own w hg l c t hop w.heap.size e i z 1 ht hi hz0 hs1 kl kc C n hl hc hC ?_ (by unfold maxLen; omega) (Nat.le_refl _) ?_
  · rw [hs2]
    have := Nat.mul_le_mul hb hn
    omega
  · intro w' ho hgr
    refine hK w' ⟨ho, fun g hg' => (ho.lt g hg').2⟩ ((Below.refl _ _).grown hgr (Nat.le_refl _) (fun k hk => by cases hk))

theorem below_of_drewN {w w' : World} {n : Nat} (h : w.drewN n = w') : Below w.heap.size w w' := h ▸ bel_drewN (Below.refl _ _) n
/-- The cells of a block that was just made, as a list to be appended. -/
theorem new_cells {w : World} (cs : Array Value) (t : TypeId) : ∀ j u, cs.toList[j]? = some u → (w.alloc (.cells cs t)).cell? ((⟨w.heap.size, 0, none⟩ : Addr).add j) = some u := by
  intro j u hu
  have e1 : (⟨w.heap.size, 0, none⟩ : Addr).add j = ⟨w.heap.size, j, none⟩ := by unfold Addr.add; split <;> simp_all
  rw [e1, World.cell?_alloc_new]
  simpa using hu
theorem Own.made {w : World} (cs : Array Value) (t : TypeId) (B : Nat) (hB : B ≤ w.heap.size) (hm : cs.size ≤ maxLen) : Own (w.alloc (.cells cs t)) B (w.heap.size + 1) t (.slice (some ⟨w.heap.size, 0, none⟩) cs.size cs.size) cs.toList := by
  have := Own.mk' (w := w.alloc (.cells cs t)) (B := B) (C := w.heap.size + 1) (e := t) (xs := cs.toList) (g := w.heap.size) (cap := cs.size) (cur := cs) hB (by omega) (heap_alloc_new w _) (by simp) hm rfl List.take_length
  simpa using this
/-- A block that was just made reads as its cells. -/
theorem Rd.made {w : World} (cs : Array Value) (t : TypeId) (N : Nat) (hN : N = w.heap.size) : Rd (w.alloc (.cells cs t)) N (N + 1) (some ⟨N, 0, none⟩) cs.toList := by
  subst hN
  exact fun _ => ⟨_, rfl, Nat.le_refl _, by simp, new_cells cs t⟩
end Go.Proofs.YtejhpkcoeakegaaDoor

/-
  The walks of the folder: the root to which a proof leads. (UNDER WAY)
-/
import Derived.Test.YtjjkpieokknhiaaRoots
import Derived.Test.YtjjkpieokknhiaaArr
namespace Go.Proofs.Ytjjkpieokknhiaa
set_option linter.unusedVariables false
open Go.RowKit

theorem infoStrF : (Try.prog.info? 9).map (fun i => (i.zero, i.size, i.bytes)) = some (some (.string ⟨#[]⟩), 1, 16) := by kernel_rfl
set_option maxRecDepth 100000 in
set_option maxHeartbeats 1000000 in
theorem i_fnode (wd F : Nat) (h1 : 1 ≤ wd) (h32 : wd ≤ 32) (l r : ByteArray) (hlr : l.size + r.size ≤ 4000) (T : Option Addr) (c : Nat) (xs : List ByteArray) (hx : xs.length ≤ 1000000) (w : World)
    (hA : Arr w F 72 [.int .i64 (wd : Int), .slice T xs.length c]) (hO : Own w (F + 1) w.heap.size 9 (.slice T xs.length c) (strs xs)) :
    Calls Try.prog 58 #[.pointer (some ⟨F, 0, none⟩), .string l, .string r] w fun e w' => e = .returned (.string (nodeT wd l r)) ∧ Below F w w' ∧ ∃ T' c', Arr w' F 72 [.int .i64 (wd : Int), .slice T' (xs.length + 1) c'] ∧ Own w' (F + 1) w'.heap.size 9 (.slice T' (xs.length + 1) c') (strs (xs ++ [l ++ r])) := by
  have H1 := hide hA
  have O1 := hide hO
  have g : ¬ 9223372036854775807 < l.size + r.size := by omega
  have f0 : w.cell? ⟨F, 0, none⟩ = some (.int .i64 (wd : Int)) := hA.cell (k := 0) (by simp)
  have f1 : w.cell? ⟨F, 1, none⟩ = some (.slice T xs.length c) := hA.cell (k := 1) (by simp)
  have lF : F < w.heap.size := hA.lt
  have CN := hide (i_node wd h1 h32 l r hlr)
  have el := hide (show (strs xs ++ [Value.string (l ++ r)]).length = xs.length + 1 by rw [List.length_append, length_strs]; rfl)
  clear hA hO
  go_enter Try.func58, Try.ntmps58
  go_wp2_with (first
    | (at_builtin; refine wpList_app rfl _ _ _ rfl 9 (.string ⟨#[]⟩) 16 Try.underlying24 infoStrF rfl (F + 1) _ (strs xs) rfl ((O1.out.alloc _).top) ⟨w.heap.size, 0, none⟩ 1 1 [.string (l ++ r)] rfl rfl ((Rd.made #[.string (l ++ r)] 9 _ rfl).cells) (by simp [Value.oneCell']) (by rw [length_strs]; omega) (by omega) (by simp; omega) ?_; intro v' w3 ho3 hb3 _; obtain ⟨T', c', rfl, ho4⟩ := ho3.shape; clear ho3; rw [el.out] at ho4 ⊢; have A3 := hide ((H1.out.alloc (.cells #[.string (l ++ r)] 9)).keep (hb3.block F (Nat.lt_succ_self _))); have O3 := hide ho4; have B3 := hide (((Below.refl F w).alloc (Nat.le_of_lt lF) (.cells #[.string (l ++ r)] 9)).trans (hb3.mono (Nat.le_succ _))); have s3 := hide hb3.size; clear ho4 hb3 f0 f1; have f0 : w3.cell? ⟨F, 0, none⟩ = some (.int .i64 (wd : Int)) := A3.out.cell (k := 0) (by simp); have f1 : w3.cell? ⟨F, 1, none⟩ = some (.slice T xs.length c) := A3.out.cell (k := 1) (by simp); have f2 := A3.out.free 1)
    | (go_at_call 39; refine (CN.out _).mono ?_; rintro e w4 ⟨rfl, hb4⟩))
  go_ret
  have es : strs (xs ++ [l ++ r]) = strs xs ++ [.string (l ++ r)] := by simp [strs]
  have ho := O3.out
  have hF : F ≤ (w3.setCell ⟨F, 1, none⟩ (.slice T' (xs.length + 1) c')).heap.size := by have := A3.out.lt; simp; omega
  have B4 : Below F w (w3.setCell ⟨F, 1, none⟩ (.slice T' (xs.length + 1) c')) := B3.out.setCell (Nat.le_refl _) _
  refine ⟨rfl, bel_new B4 hb4 hF, T', c', ?_, ?_⟩
  · have := (A3.out.set_ 1 (.slice T' (xs.length + 1) c')).below hb4
    simpa using this
  · rw [es]
    exact ((ho.setCell (.inl (by simp)) _).below hb4).top
end Go.Proofs.Ytjjkpieokknhiaa

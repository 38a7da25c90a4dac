/-
  The walks of the laws' helpers that mark slices of strings.
-/
import Derived.Test.YtejhpkcoeakegaaDoorText
import Derived.Test.YtejhpkcoeakegaaDoorLibS
import Derived.Test.YtejhpkcoeakegaaDoorLibU
import Derived.Test.YtejhpkcoeakegaaDoorMixIn
namespace Go.Proofs.YtejhpkcoeakegaaDoor
set_option linter.unusedVariables false
open Go.RowKit

/-- The digits of j ahead of o (fuel first). -/
def decM : Nat → Nat → ByteArray → ByteArray
  | 0, _, o => o
  | f + 1, j, o => if j = 0 then o else decM f (j / 10) (one ((48 : Int) + (j : Int) % 10) ++ o)
theorem decM_zero (f : Nat) (o : ByteArray) : decM f 0 o = o := by cases f <;> simp [decM]
theorem decM_step {f j : Nat} (o : ByteArray) (h : 0 < j) : decM (f + 1) j o = decM f (j / 10) (one ((48 : Int) + (j : Int) % 10) ++ o) := by
  rw [decM, if_neg (by omega)]
def markT (k : Nat) : ByteArray := (⟨#[109]⟩ : ByteArray) ++ decM k k ⟨#[]⟩
set_option maxRecDepth 100000 in
set_option maxHeartbeats 1000000 in
theorem l_markText (k : Nat) (h0 : 0 < k) (hk : k ≤ 4294967295) (w : World) :
    Calls Tryd.prog 28 #[.int .i64 (k : Int)] w fun e w' => e = .returned (.string (markT k)) ∧ Below w.heap.size w w' := by
  have kc := run_one (P := Tryd.prog) _ _ _ Tryd.underlying5 Tryd.underlying9 Tryd.underlying25
  have he := str_empty
  have z1 := one_size
  go_enter Tryd.func28, Tryd.ntmps28
  go_wp2
  go_loopw [0, 3] (fun i s wr => ∃ f j : Nat, ∃ o : ByteArray, i = .int .i64 j ∧ s = .string o ∧ j ≤ f ∧ Hid (decM f j o = decM k k ⟨#[]⟩) ∧ o.size + j ≤ k ∧ Hid (Below w.heap.size w wr)) (fun i _ _ => (intOf i).toNat)
  case atStart => exact ⟨k, k, ⟨#[]⟩, rfl, rfl, Nat.le_refl _, rfl, by show 0 + k ≤ k; omega, Below.refl _ _⟩
  case round =>
    obtain ⟨f, j, o, rfl, rfl, hjf, hd, ho, hb⟩ := hrel
    by_cases hlt : 0 < j
    · obtain ⟨f, rfl⟩ : ∃ f', f = f' + 1 := ⟨f - 1, by omega⟩
      have hlt' : (0 : Int) < (j : Int) := by omega
      have gs : ¬ 9223372036854775807 < 1 + o.size := by omega
      go_wp2
      go_roundw
      case rel =>
        refine ⟨f, j / 10, _, by go_num, rfl, by omega, ?_, ?_, ?_⟩
        · show _ = _
          rw [← hd.out, decM_step _ hlt]
        · simp [z1]; omega
        · exact hb.out.alloc hb.out.size _
      case measure => simp [intOf]; omega
    · obtain rfl : j = 0 := by omega
      have ho' : ¬ 9223372036854775807 < 1 + o.size := by omega
      have hd2 := hide (show o = decM k k ⟨#[]⟩ by rw [← hd.out, decM_zero])
      go_wp2
      go_ret
      exact ⟨ret_str (by rw [markT, ← hd2.out]), hb.out⟩
/-- The marks of k, k + 1, .. , n of them. -/
def marksS (k n : Nat) : List ByteArray := (List.range n).map fun i : Nat => markT (k + i)
theorem length_marksS (k n : Nat) : (marksS k n).length = n := by simp [marksS]
theorem marksS_get (k n j : Nat) (h : j < n) : (marksS k n)[j]'(by rw [length_marksS]; exact h) = markT (k + j) := by simp [marksS]
theorem marksS_set (k n j : Nat) (zs : List ByteArray) (hz : zs.length = n) (h : j < n) : (strs (marksS k j ++ zs.drop j)).set j (.string (markT (k + j))) = strs (marksS k (j + 1) ++ zs.drop (j + 1)) := by
  have e1 : zs.drop j = zs[j]'(by omega) :: zs.drop (j + 1) := List.drop_eq_getElem_cons (by omega)
  rw [e1]
  unfold strs
  rw [List.map_append, List.map_cons, List.set_append_right _ _ (by simp [marksS])]
  simp only [List.length_map, length_marksS, Nat.sub_self, List.set_cons_zero]
  rw [List.map_append]
  simp [marksS, List.range_succ]
set_option maxRecDepth 100000 in
set_option maxHeartbeats 1000000 in
theorem l_markStringS (k : Nat) (zs : List ByteArray) (B C : Nat) (v : Value) (w : World) (h : Own w B C 9 v (strs zs)) (hk : 0 < k) (hn : k + zs.length ≤ 4294967295) :
    Calls Tryd.prog 15 #[v, .int .i64 (k : Int)] w fun e w' => e = .returned (.int .i64 ((k : Int) + zs.length)) ∧ Chg B C w w' ∧ Own w' B C 9 v (strs (marksS k zs.length)) := by
  obtain ⟨A, cap, rfl, ho⟩ := h.shape
  rw [length_strs] at *
  have H1 := hide ho
  clear h ho
  go_enter Tryd.func15, Tryd.ntmps15
  go_wp2
  go_loopw [1, 5] (fun q i wr => ∃ j : Nat, j ≤ zs.length ∧ i = .int .i64 j ∧ q = .int .i64 ((k : Int) + j) ∧ Hid (Chg B C w wr) ∧ Hid (Own wr B C 9 (.slice A zs.length cap) (strs (marksS k j ++ zs.drop j)))) (fun _ i _ => zs.length - (intOf i).toNat)
  case atStart => exact ⟨0, Nat.zero_le _, rfl, by simp, Chg.refl _ _ _, by simpa [marksS, Hid] using H1.out⟩
  case round =>
    obtain ⟨j, hj, rfl, rfl, hchg, hown⟩ := hrel
    by_cases hlt : j < zs.length
    · have hlt' : (j : Int) < (zs.length : Int) := by omega
      have hlen : (strs (marksS k j ++ zs.drop j)).length = zs.length := by rw [length_strs, List.length_append, length_marksS, List.length_drop]; omega
      have hl2 : j < (strs (marksS k j ++ zs.drop j)).length := by rw [hlen]; exact hlt
      have CM := hide (l_markText (k + j) (by omega) (by omega))
      rw [Int.natCast_add] at CM
      have HL := hide hlen
      clear hlen
      go_wp2_with (go_at_call 28; refine (CM.out _).mono ?_; rintro e w1 ⟨rfl, hb⟩; have hchg1 := hide (hchg.out.trans (Chg.of_below hb)); have hown1 := hide (hown.out.below hb); clear hb hown hchg; obtain ⟨g, rfl, hB, hC, hg, hc, hf⟩ := hown1.out.at2 hl2; have Hnew := hide (Own.set_ (by rw [HL.out]; exact hown1.out) hl2 (.string (markT (k + j)))))
      go_roundw
      case rel =>
        refine ⟨j + 1, by omega, by go_num, by go_num, hide (hchg1.out.setCell (.inl ⟨hB, hC⟩) _), ?_⟩
        have hx := Hnew.out
        rw [marksS_set k zs.length j zs rfl hlt] at hx
        have hl3 : (strs (marksS k (j + 1) ++ zs.drop (j + 1))).length = zs.length := by rw [length_strs, List.length_append, length_marksS, List.length_drop]; omega
        rw [hl3] at hx
        exact hx
      case measure => simp [intOf]; omega
    · have e : j = zs.length := by omega
      have He := hide e
      have hge : zs.length ≤ j := by omega
      have hx := hide (show Own _ B C 9 (.slice A zs.length cap) (strs (marksS k zs.length)) from by have := hown.out; rw [e, List.drop_length, List.append_nil] at this; exact this)
      clear e
      go_wp2
      go_ret
      exact ⟨ret_int (by rw [He.out]), hchg.out, hx.out⟩
set_option maxRecDepth 100000 in
set_option maxHeartbeats 1000000 in
theorem l_heldStringS (k n : Nat) (A : Option Addr) (c L H : Nat) (w : World) (h : Rd w L H A (strs (marksS k n))) (hk : 0 < k) (hn : k + n ≤ 4294967295) :
    Calls Tryd.prog 16 #[.slice A n c, .int .i64 (k : Int)] w fun e w' => e = .returned (.int .i64 ((k : Int) + n)) ∧ Below w.heap.size w w' := by
  have H1 := hide h
  clear h
  go_enter Tryd.func16, Tryd.ntmps16
  go_wp2
  go_loopw [1, 5] (fun q i wr => ∃ j : Nat, j ≤ n ∧ i = .int .i64 j ∧ q = .int .i64 ((k : Int) + j) ∧ Hid (Below w.heap.size w wr)) (fun _ i _ => n - (intOf i).toNat)
  case atStart => exact ⟨0, Nat.zero_le _, rfl, by simp, Below.refl _ _⟩
  case round =>
    obtain ⟨j, hj, rfl, rfl, hb⟩ := hrel
    by_cases hlt : j < n
    · have hlt' : (j : Int) < (n : Int) := by omega
      have hl2 : j < (strs (marksS k n)).length := by rw [length_strs, length_marksS]; exact hlt
      have R1 := hide (H1.out.below hb.out)
      obtain ⟨ad, rfl, _, hblk, hc⟩ := R1.out.top.at_ hl2
      have ex := hide (show (strs (marksS k n))[j] = .string (markT (k + j)) by simp [strs, marksS])
      rw [ex.out] at hc
      have CM := hide (l_markText (k + j) (by omega) (by omega))
      rw [Int.natCast_add] at CM
      go_wp2_with fail
      refine wp_region_held_drew (S := fun w' => Below wr.heap.size wr w') (by kernel_rfl) (below_drew (Below.refl _ _)) (fun hHeld => ?_)
      refine take_first 0 12 (.slice (some ad) n c) rfl (by kernel_rfl) (by kernel_rfl) (by kernel_rfl) (fun _ _ _ h => h) rfl (yieldsIf_move rfl _ rfl rfl) hHeld ?_
      simp only [Act.put, List.setIfInBounds_toArray, List.set_cons_zero, List.set_cons_succ]
      refine take_first 1 13 (.int .i64 (j : Int)) rfl (by kernel_rfl) (by kernel_rfl) (by kernel_rfl) (fun _ _ _ h => h) rfl (yieldsIf_move rfl _ rfl rfl) hHeld ?_
      simp only [Act.put, List.setIfInBounds_toArray, List.set_cons_zero, List.set_cons_succ]
      refine take_first 2 14 (.pointer (some (ad.add j))) rfl (by kernel_rfl) (by kernel_rfl) (by kernel_rfl) (fun _ _ _ h => h) rfl (.inl ⟨by rfl, fun w' hw' => by go_simp⟩) hHeld ?_
      simp only [Act.put, List.setIfInBounds_toArray, List.set_cons_zero, List.set_cons_succ]
      refine take_first 3 15 (.string (markT (k + j))) rfl (by kernel_rfl) (by kernel_rfl) (by kernel_rfl) (fun _ _ _ h => h) rfl (.inl ⟨by rfl, fun w' hw' => by obtain ⟨ad', he, _, _, cc⟩ := (R1.out.below hw').at_ hl2; injection he with he; subst he; rw [ex.out] at cc; go_simp⟩) hHeld ?_
      simp only [Act.put, List.setIfInBounds_toArray, List.set_cons_zero, List.set_cons_succ]
      refine take_first 4 16 (.int .i64 ((k : Int) + j)) rfl (by kernel_rfl) (by kernel_rfl) (by kernel_rfl) (fun _ _ _ h => h) rfl (yieldsIf_move rfl _ rfl rfl) hHeld ?_
      simp only [Act.put, List.setIfInBounds_toArray, List.set_cons_zero, List.set_cons_succ]
      refine wpAnyH_ready (rs := [5]) (by kernel_rfl) (by simp) (AllReadyH.cons rfl (fun K hK => ?_) AllReadyH.nil)
      go_simp
      refine (CM.out _).mono ?_
      rintro e w1 ⟨rfl, hb1⟩
      dsimp only
      have S1 := hide (bel_new hHeld hb1 hHeld.size)
      clear hb1 hHeld
      refine hK.out _ _ (S1.out) (fun hHeld => ?_)
      clear hK K
      refine take_first 6 18 (.bool false) rfl (by kernel_rfl) (by kernel_rfl) (by kernel_rfl) (fun _ _ _ h => h) rfl (.inl ⟨by rfl, fun w' hw' => by go_simp⟩) hHeld ?_
      simp only [Act.put, List.setIfInBounds_toArray, List.set_cons_zero, List.set_cons_succ]
      refine wpAnyH_done (by kernel_rfl) ?_ _
      have hb2 := hide (bel_new hb.out S1.out hb.out.size)
      clear hb S1 hHeld
      go_wp2
      go_roundw
      case rel => exact ⟨j + 1, by omega, by go_num, by go_num, hb2.out⟩
      case measure => simp [intOf]; omega
    · have e : j = n := by omega
      have He := hide e
      have hge : n ≤ j := by omega
      clear e
      go_wp2
      go_ret
      exact ⟨ret_int (by rw [He.out]), hb.out⟩
end Go.Proofs.YtejhpkcoeakegaaDoor

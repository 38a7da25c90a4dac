/-
  The walks of ReadDecimal, the program's and the reference's.
-/
import Derived.Test.YtejhpkcoeakegaaDoorDec
import Derived.LoopTactic
namespace Go.Proofs.YtejhpkcoeakegaaDoor
set_option linter.unusedVariables false
open Go.RowKit

theorem toList_inj {a b : ByteArray} (h : a.toList = b.toList) : a = b := by
  rw [ByteArray.toList_eq, ByteArray.toList_eq] at h
  exact ByteArray.ext (Array.ext' h)
/-- Is this byte a figure? -/
def digB (b : UInt8) : Bool := decide (48 ≤ b.toNat) && decide (b.toNat ≤ 57)
/-- The number that the figures write. -/
def numL (l : List UInt8) : Nat := l.foldl (fun a b => 10 * a + (b.toNat - 48)) 0
def rdOk (s : ByteArray) : Bool := decide (s.size ≤ 15) && s.data.toList.all digB && decide (dec (numL s.data.toList) = s)
def rdN (s : ByteArray) : Int := if rdOk s = true then (numL s.data.toList : Int) else 0
theorem rd_not {s : ByteArray} (h : rdOk s = false) : rdN s = 0 := by unfold rdN; rw [if_neg (by rw [h]; decide)]
theorem rd_yes {s : ByteArray} (h : rdOk s = true) : rdN s = (numL s.data.toList : Int) := if_pos h
theorem rd_long {s : ByteArray} (h : ¬ s.size ≤ 15) : rdOk s = false := by simp [rdOk, h]
theorem dec_size_pos (n : Int) : 0 < (dec n).size := by
  unfold dec
  show 0 < (Lib.itoa n).toArray.size
  rw [List.size_toArray]
  unfold Lib.itoa
  split
  · simp
  · rw [Lib.decDigits]; split <;> simp
theorem rd_empty {s : ByteArray} (h : s.size = 0) : rdOk s = false := by
  have : decide (dec (numL s.data.toList) = s) = false := by
    rw [decide_eq_false_iff_not]
    intro e
    have := dec_size_pos (numL s.data.toList : Nat)
    rw [e] at this; omega
  unfold rdOk; rw [this, Bool.and_false]
theorem rd_bad {s : ByteArray} {j : Nat} (hj : j < s.size) (h : digB (s[j]'hj) = false) : rdOk s = false := by
  have h' : j < s.data.toList.length := by simpa using hj
  have : s.data.toList.all digB = false := by
    rw [List.all_eq_false]
    exact ⟨s.data.toList[j], List.getElem_mem h', ne_true_of_eq_false h⟩
  unfold rdOk; rw [this, Bool.and_false, Bool.false_and]
/-- The first j figures. -/
def numT (s : ByteArray) (j : Nat) : Nat := numL (s.data.toList.take j)
def digT (s : ByteArray) (j : Nat) : Prop := (s.data.toList.take j).all digB = true
theorem numT_succ {s : ByteArray} {j : Nat} (hj : j < s.size) : numT s (j + 1) = 10 * numT s j + ((s[j]'hj).toNat - 48) := by
  have h' : j < s.data.toList.length := by simpa using hj
  unfold numT numL
  rw [List.take_succ_eq_append_getElem h', List.foldl_append]
  rfl
theorem digT_succ {s : ByteArray} {j : Nat} (hj : j < s.size) (h : digT s j) (hb : digB (s[j]'hj) = true) : digT s (j + 1) := by
  have h' : j < s.data.toList.length := by simpa using hj
  unfold digT at *
  rw [List.take_succ_eq_append_getElem h', List.all_append, h, Bool.true_and, List.all_cons, List.all_nil, Bool.and_true]
  exact hb
theorem digT_all {s : ByteArray} {j : Nat} (h : s.size ≤ j) (hd : digT s j) (h15 : s.size ≤ 15) : rdOk s = decide (dec (numT s j) = s) := by
  unfold digT at hd
  have e : s.data.toList.take j = s.data.toList := List.take_of_length_le (by simpa using h)
  have hd' : s.data.toList.all digB = true := by rw [← e]; exact hd
  unfold rdOk numT
  rw [e, hd', decide_eq_true h15, Bool.true_and, Bool.true_and]
theorem numT_all {s : ByteArray} {j : Nat} (h : s.size ≤ j) : numT s j = numL s.data.toList := by
  unfold numT; rw [List.take_of_length_le (by simpa using h)]
theorem digCases (b : UInt8) : (digB b = true ∧ 48 ≤ (b.toNat : Int) ∧ (b.toNat : Int) ≤ 57) ∨ (digB b = false ∧ (b.toNat : Int) < 48) ∨ (digB b = false ∧ 48 ≤ (b.toNat : Int) ∧ 57 < (b.toNat : Int)) := by
  unfold digB
  by_cases h1 : 48 ≤ b.toNat
  · by_cases h2 : b.toNat ≤ 57
    · exact .inl ⟨by simp [h1, h2], by omega, by omega⟩
    · exact .inr (.inr ⟨by simp [h2], by omega, by omega⟩)
  · exact .inr (.inl ⟨by simp [h1], by omega⟩)

set_option maxRecDepth 100000 in
set_option maxHeartbeats 4000000 in
theorem i_ReadDecimal (s : ByteArray) (hs : s.size ≤ 9223372036854775807) (w : World) (htab : Lib.TabIs Tryd.prog w "internal/strconv.uint64pow10" .u64 Lib.pow10Tab) :
    Calls Tryd.prog 8 #[.string s] w fun e w' => e = .returned (.tuple #[.int .i64 (rdN s), .bool (rdOk s)]) ∧ Below w.heap.size w w' := by
  by_cases h15 : s.size ≤ 15
  case neg =>
    have e1 := rd_long h15
    rw [rd_not e1, e1]
    have d1 : (15 : Int) < s.size := by omega
    go_enter Tryd.func8, Tryd.ntmps8
    go_wp2
    go_ret2
    exact ⟨rfl, Below.refl _ _⟩
  by_cases h0 : s.size = 0
  · have e1 := rd_empty h0
    rw [rd_not e1, e1]
    have d1 : (s.size : Int) < 1 := by omega
    go_enter Tryd.func8, Tryd.ntmps8
    go_wp2
    go_ret2
    exact ⟨rfl, Below.refl _ _⟩
  have d0 : 1 ≤ (s.size : Int) := by omega
  have d15 : (s.size : Int) ≤ 15 := by omega
  go_enter Tryd.func8, Tryd.ntmps8
  go_wp2
  go_loop [4, 5] (fun n i => ∃ j : Nat, j ≤ s.size ∧ i = .int .i64 j ∧ n = .int .i64 (numT s j : Int) ∧ Hid (digT s j) ∧ Hid (numT s j < 10 ^ j)) (fun _ i => s.size - (intOf i).toNat)
  case atStart => exact ⟨0, Nat.zero_le _, rfl, rfl, rfl, Nat.zero_lt_one⟩
  case round =>
    obtain ⟨j, hj, rfl, rfl, hok, hlt10⟩ := hrel
    by_cases hlt : j < s.size
    · rcases digCases (s[j]'hlt) with ⟨hb, b1, b2⟩ | ⟨hb, b1⟩ | ⟨hb, b1, b2⟩
      · have F2 := hide (digT_succ hlt hok.out hb)
        have N2 := hide (numT_succ hlt)
        have L2 : Hid (numT s (j + 1) < 10 ^ (j + 1)) := hide (by have h1 := N2.out; have h2 := hlt10.out; have : 10 ^ (j + 1) = 10 ^ j * 10 := Nat.pow_succ ..; omega)
        have hp : Hid (10 ^ j ≤ 100000000000000) := hide (by
          have : 10 ^ j ≤ 10 ^ 14 := Nat.pow_le_pow_right (by omega) (by omega)
          exact this)
        have hbd : numT s j < 100000000000000 := Nat.lt_of_lt_of_le hlt10.out hp.out
        have g1 : IntKind.i64.wrap (10 * (numT s j : Int)) = 10 * (numT s j : Int) := IntWalk.i64_in _ (by omega)
        have g1' : IntKind.i64.wrap ((numT s j : Int) * 10) = (numT s j : Int) * 10 := IntWalk.i64_in _ (by omega)
        have g2 : IntKind.i64.wrap ((s[j]'hlt).toNat : Int) = ((s[j]'hlt).toNat : Int) := IntWalk.i64_in _ (by omega)
        generalize hc : ((s[j]'hlt).toNat : Int) = c at *
        have hN : (numT s (j + 1) : Int) = 10 * (numT s j : Int) + c - 48 := by have := N2.out; omega
        clear hb
        go_wp2
        go_round
        case rel => exact ⟨j + 1, by omega, by go_num, by first | (rw [hN]; done) | (rw [hN]; go_num), F2, L2⟩
        case measure => simp [intOf]; omega
      all_goals
        have e1 := hide (rd_bad hlt hb)
        clear hb
        go_wp2
        go_ret2
        refine ⟨?_, Below.refl _ _⟩
        rw [rd_not e1.out, e1.out]
        rfl
    · have hge : s.size ≤ j := by omega
      have he := hide (digT_all hge hok.out h15)
      have hn := hide (numT_all hge)
      have hp : Hid (10 ^ j ≤ 1000000000000000) := hide (by
        have : 10 ^ j ≤ 10 ^ 15 := Nat.pow_le_pow_right (by omega) (by omega)
        exact this)
      have hbd : numT s j < 1000000000000000 := Nat.lt_of_lt_of_le hlt10.out hp.out
      by_cases hd : dec (numT s j : Int) = s
      · have e1 : rdOk s = true := by rw [he.out]; exact decide_eq_true hd
        have e2 := hide (rd_yes e1)
        have E1 := hide e1
        have hD : ((dec (numT s j : Int)).toList == s.toList) = true := by rw [hd]; exact beq_self_eq_true _
        have HD := hide hd
        clear hd e1
        go_wp2_with (go_at_call 11; refine (i_Decimal _ (by omega) (by omega) _ htab).mono ?_; rintro e w1 ⟨rfl, hb⟩)
        go_ret2
        exact ⟨by rw [e2.out, E1.out, ← hn.out]; rfl, ‹Below w.heap.size w _›⟩
      · have e1 : rdOk s = false := by rw [he.out]; exact decide_eq_false hd
        have e2 := hide (rd_not e1)
        have E1 := hide e1
        have hD : ((dec (numT s j : Int)).toList == s.toList) = false := beq_eq_false_iff_ne.mpr fun e => hd (toList_inj e)
        have HD := hide hd
        clear hd e1
        go_wp2_with (go_at_call 11; refine (i_Decimal _ (by omega) (by omega) _ htab).mono ?_; rintro e w1 ⟨rfl, hb⟩)
        go_ret2
        exact ⟨by rw [e2.out, E1.out]; rfl, ‹Below w.heap.size w _›⟩

set_option maxRecDepth 100000 in
set_option maxHeartbeats 4000000 in
theorem s_ReadDecimal (s : ByteArray) (hs : s.size ≤ 9223372036854775807) (w : World) :
    Calls Tryd.prog 7 #[.string s] w fun e w' => e = .returned (.tuple #[.int .i64 (rdN s), .bool (rdOk s)]) ∧ Below w.heap.size w w' := by
  by_cases h15 : s.size ≤ 15
  case neg =>
    have e1 := rd_long h15
    rw [rd_not e1, e1]
    have d1 : (15 : Int) < s.size := by omega
    go_enter Tryd.func7, Tryd.ntmps7
    go_wp2
    go_ret2
    exact ⟨rfl, Below.refl _ _⟩
  have d15 : (s.size : Int) ≤ 15 := by omega
  go_enter Tryd.func7, Tryd.ntmps7
  go_wp2
  go_loop [4, 5] (fun n i => ∃ j : Nat, j ≤ s.size ∧ i = .int .i64 j ∧ n = .int .i64 (numT s j : Int) ∧ Hid (digT s j) ∧ Hid (numT s j < 10 ^ j)) (fun _ i => s.size - (intOf i).toNat)
  case atStart => exact ⟨0, Nat.zero_le _, rfl, rfl, rfl, Nat.zero_lt_one⟩
  case round =>
    obtain ⟨j, hj, rfl, rfl, hok, hlt10⟩ := hrel
    by_cases hlt : j < s.size
    · rcases digCases (s[j]'hlt) with ⟨hb, b1, b2⟩ | ⟨hb, b1⟩ | ⟨hb, b1, b2⟩
      · have F2 := hide (digT_succ hlt hok.out hb)
        have N2 := hide (numT_succ hlt)
        have L2 : Hid (numT s (j + 1) < 10 ^ (j + 1)) := hide (by have h1 := N2.out; have h2 := hlt10.out; have : 10 ^ (j + 1) = 10 ^ j * 10 := Nat.pow_succ ..; omega)
        have hp : Hid (10 ^ j ≤ 100000000000000) := hide (by
          have : 10 ^ j ≤ 10 ^ 14 := Nat.pow_le_pow_right (by omega) (by omega)
          exact this)
        have hbd : numT s j < 100000000000000 := Nat.lt_of_lt_of_le hlt10.out hp.out
        have g1 : IntKind.i64.wrap (10 * (numT s j : Int)) = 10 * (numT s j : Int) := IntWalk.i64_in _ (by omega)
        have g1' : IntKind.i64.wrap ((numT s j : Int) * 10) = (numT s j : Int) * 10 := IntWalk.i64_in _ (by omega)
        have g2 : IntKind.i64.wrap ((s[j]'hlt).toNat : Int) = ((s[j]'hlt).toNat : Int) := IntWalk.i64_in _ (by omega)
        generalize hc : ((s[j]'hlt).toNat : Int) = c at *
        have hN : (numT s (j + 1) : Int) = 10 * (numT s j : Int) + c - 48 := by have := N2.out; omega
        clear hb
        go_wp2
        go_round
        case rel => exact ⟨j + 1, by omega, by go_num, by first | (rw [hN]; done) | (rw [hN]; go_num), F2, L2⟩
        case measure => simp [intOf]; omega
      all_goals
        have e1 := hide (rd_bad hlt hb)
        clear hb
        go_wp2
        go_ret2
        refine ⟨?_, Below.refl _ _⟩
        rw [rd_not e1.out, e1.out]
        rfl
    · have hge : s.size ≤ j := by omega
      have he := hide (digT_all hge hok.out h15)
      have hn := hide (numT_all hge)
      have hp : Hid (10 ^ j ≤ 1000000000000000) := hide (by
        have : 10 ^ j ≤ 10 ^ 15 := Nat.pow_le_pow_right (by omega) (by omega)
        exact this)
      have hbd : numT s j < 1000000000000000 := Nat.lt_of_lt_of_le hlt10.out hp.out
      by_cases hd : dec (numT s j : Int) = s
      · have e1 : rdOk s = true := by rw [he.out]; exact decide_eq_true hd
        have e2 := hide (rd_yes e1)
        have E1 := hide e1
        have hD : ((dec (numT s j : Int)).toList == s.toList) = true := by rw [hd]; exact beq_self_eq_true _
        have HD := hide hd
        clear hd e1
        go_wp2_with (go_at_call 22; refine (s_Decimal _ (by omega) (by omega) _).mono ?_; rintro e w1 ⟨rfl, hb⟩)
        go_ret2
        exact ⟨by rw [e2.out, E1.out, ← hn.out]; rfl, ‹Below w.heap.size w _›⟩
      · have e1 : rdOk s = false := by rw [he.out]; exact decide_eq_false hd
        have e2 := hide (rd_not e1)
        have E1 := hide e1
        have hD : ((dec (numT s j : Int)).toList == s.toList) = false := beq_eq_false_iff_ne.mpr fun e => hd (toList_inj e)
        have HD := hide hd
        clear hd e1
        go_wp2_with (go_at_call 22; refine (s_Decimal _ (by omega) (by omega) _).mono ?_; rintro e w1 ⟨rfl, hb⟩)
        go_ret2
        exact ⟨by rw [e2.out, E1.out]; rfl, ‹Below w.heap.size w _›⟩
end Go.Proofs.YtejhpkcoeakegaaDoor

/-
  The walks of NameOk: each byte is a letter, a figure or a dash, and there are 1 to 20 of them.
-/
import Derived.Test.YticpedlcfakaeaaSmall
import Derived.LoopTactic
namespace Go.Proofs.Yticpedlcfakaeaa
set_option linter.unusedVariables false
open Go.RowKit

/-- May this byte stand in a name? -/
def okByte (b : Int) : Bool := decide (97 ≤ b ∧ b ≤ 122) || decide (48 ≤ b ∧ b ≤ 57) || decide (b = 45)
def bytesOk (l : List UInt8) : Bool := l.all fun b => okByte (b.toNat : Int)
/-- NameOk. -/
def nameOk (s : ByteArray) : Bool := bytesOk s.data.toList && inR s.size 1 20

theorem bytesOk_false {s : ByteArray} {j : Nat} (hj : j < s.size) (h : okByte ((s[j]'hj).toNat : Int) = false) : nameOk s = false := by
  have h' : j < s.data.toList.length := by simpa using hj
  have hb : bytesOk s.data.toList = false := by
    unfold bytesOk
    rw [List.all_eq_false]
    exact ⟨s.data.toList[j], List.getElem_mem h', ne_true_of_eq_false h⟩
  simp [nameOk, hb]
theorem bytesOk_take {s : ByteArray} {j : Nat} (hj : j < s.size) (h : bytesOk (s.data.toList.take j) = true) (hb : okByte ((s[j]'hj).toNat : Int) = true) : bytesOk (s.data.toList.take (j + 1)) = true := by
  have h' : j < s.data.toList.length := by simpa using hj
  rw [List.take_succ_eq_append_getElem h']
  unfold bytesOk at *
  rw [List.all_append, h, Bool.true_and, List.all_cons, List.all_nil, Bool.and_true]
  exact hb
theorem nameOk_end {s : ByteArray} (h : bytesOk (s.data.toList.take s.size) = true) : nameOk s = inR s.size 1 20 := by
  rw [List.take_of_length_le (by simp)] at h
  simp [nameOk, h]

theorem okCases (b : Int) : (okByte b = true ∧ ((97 ≤ b ∧ b ≤ 122 ∧ (b == 45) = false) ∨ (48 ≤ b ∧ b ≤ 57 ∧ (b == 45) = false) ∨ (b ≤ 47 ∧ True ∧ (b == 45) = true))) ∨
    (okByte b = false ∧ (b == 45) = false ∧ ((b < 48 ∧ decide (b ≤ 57) = true ∧ decide (b ≤ 122) = true) ∨ (57 < b ∧ b < 97 ∧ decide (b ≤ 57) = false ∧ decide (b ≤ 122) = true) ∨ (122 < b ∧ decide (b ≤ 57) = false ∧ decide (b ≤ 122) = false))) := by
  by_cases h1 : 97 ≤ b ∧ b ≤ 122
  · exact .inl ⟨by simp [okByte, h1], .inl ⟨h1.1, h1.2, by simp; omega⟩⟩
  by_cases h2 : 48 ≤ b ∧ b ≤ 57
  · exact .inl ⟨by simp [okByte, h2], .inr (.inl ⟨h2.1, h2.2, by simp; omega⟩)⟩
  by_cases h3 : b = 45
  · exact .inl ⟨by simp [okByte, h3], .inr (.inr ⟨by omega, trivial, by simp [h3]⟩)⟩
  · refine .inr ⟨by simp [okByte, h1, h2, h3], by simp [h3], ?_⟩
    simp
    omega

set_option maxHeartbeats 1000000 in
theorem i_NameOk (s : ByteArray) (hs : s.size ≤ 9223372036854775807) (w : World) :
    Calls Try.prog 99 #[.string s] w fun e w' => e = .returned (.bool (nameOk s)) ∧ w = w' := by
  go_enter Try.func99, Try.ntmps99
  go_wp2
  go_loop [3, 4] (fun i _ => ∃ j : Nat, j ≤ s.size ∧ i = .int .i64 j ∧ Hid (bytesOk (s.data.toList.take j) = true)) (fun i _ => s.size - (intOf i).toNat)
  case atStart => exact ⟨0, Nat.zero_le _, rfl, rfl⟩
  case round =>
    obtain ⟨j, hj, rfl, hok⟩ := hrel
    by_cases hlt : j < s.size
    · rcases okCases ((s[j]'hlt).toNat : Int) with ⟨hb, ⟨b1, b2, b3⟩ | ⟨b1, b2, b3⟩ | ⟨b1, b2, b3⟩⟩ | ⟨hb, b3, ⟨b1, b4, b5⟩ | ⟨b1, b2, b4, b5⟩ | ⟨b1, b4, b5⟩⟩
      iterate 3
        · have F2 := hide (bytesOk_take hlt hok.out hb)
          clear hb
          go_wp2
          go_round
          case rel => exact ⟨j + 1, by omega, by go_num, F2⟩
          case measure => simp [intOf]; omega
      all_goals
        have F1 := hide (bytesOk_false hlt hb)
        clear hb
        go_wp2
        go_ret
        exact ⟨ret_bool F1.out.symm, rfl⟩
    · have he := hide (show nameOk s = inR s.size 1 20 from by
        have e : j = s.size := by omega
        rw [e] at hok; exact nameOk_end hok.out)
      have hge : s.size ≤ j := by omega
      go_wp2_with (go_at_call 95; refine (i_inRange _ _ _ _).mono ?_; rintro e w1 ⟨rfl, rfl⟩)
      go_ret
      exact ⟨ret_bool he.out.symm, rfl⟩
set_option maxHeartbeats 1000000 in
theorem s_NameOk (s : ByteArray) (hs : s.size ≤ 9223372036854775807) (w : World) :
    Calls Try.prog 98 #[.string s] w fun e w' => e = .returned (.bool (nameOk s)) ∧ w = w' := by
  by_cases hl : inR s.size 1 20 = true
  · go_enter Try.func98, Try.ntmps98
    go_wp2_with (go_at_call 66; refine (s_l01In _ _ _ _).mono ?_; rintro e w1 ⟨rfl, rfl⟩)
    go_loop [3, 4] (fun i _ => ∃ j : Nat, j ≤ s.size ∧ i = .int .i64 j ∧ Hid (bytesOk (s.data.toList.take j) = true)) (fun i _ => s.size - (intOf i).toNat)
    case atStart => exact ⟨0, Nat.zero_le _, rfl, rfl⟩
    case round =>
      obtain ⟨j, hj, rfl, hok⟩ := hrel
      by_cases hlt : j < s.size
      · rcases okCases ((s[j]'hlt).toNat : Int) with ⟨hb, ⟨b1, b2, b3⟩ | ⟨b1, b2, b3⟩ | ⟨b1, b2, b3⟩⟩ | ⟨hb, b3, ⟨b1, b4, b5⟩ | ⟨b1, b2, b4, b5⟩ | ⟨b1, b4, b5⟩⟩
        iterate 3
          · have F2 := hide (bytesOk_take hlt hok.out hb)
            clear hb
            go_wp2
            go_round
            case rel => exact ⟨j + 1, by omega, by go_num, F2⟩
            case measure => simp [intOf]; omega
        all_goals
          have F1 := hide (bytesOk_false hlt hb)
          clear hb
          go_wp2
          go_ret
          exact ⟨ret_bool F1.out.symm, rfl⟩
      · have he := hide (show nameOk s = true from by
          have e : j = s.size := by omega
          rw [e] at hok; rw [nameOk_end hok.out]; exact hl)
        have hge : s.size ≤ j := by omega
        go_wp2
        go_ret
        exact ⟨ret_bool he.out.symm, rfl⟩
  · have hl' : inR s.size 1 20 = false := by simpa using hl
    have he := hide (show nameOk s = false from by simp [nameOk, hl'])
    clear hl
    go_enter Try.func98, Try.ntmps98
    go_wp2_with (go_at_call 66; refine (s_l01In _ _ _ _).mono ?_; rintro e w1 ⟨rfl, rfl⟩)
    go_ret
    exact ⟨ret_bool he.out.symm, rfl⟩
end Go.Proofs.Yticpedlcfakaeaa

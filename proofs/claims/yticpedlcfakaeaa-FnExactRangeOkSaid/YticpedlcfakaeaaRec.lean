/-
  The walks of ReceiptOk and EntryOk, and of the laws' helpers on receipts and entries.
-/
import Derived.Test.YticpedlcfakaeaaName
import Derived.Deep.RegionWith
namespace Go.Proofs.Yticpedlcfakaeaa
set_option linter.unusedVariables false
open Go.RowKit

/-- ReceiptOk. -/
def receiptOk (r t : ByteArray) (n : Int) : Bool := nameOk r && nameOk t && inR n 0 511
/-- EntryOk. -/
def entryOk (t : ByteArray) (i tm : Int) (k b : ByteArray) : Bool := nameOk t && inR i 0 511 && inR tm 0 1000000000 && decide (k.size ≤ 40) && decide (b.size ≤ 400)

theorem i_isIndex (x : Int) (w : World) :
    Calls Try.prog 100 #[.int .i64 x] w fun e w' => e = .returned (.bool (inR x 0 511)) ∧ w = w' := by
  go_enter Try.func100, Try.ntmps100
  go_wp2_with (go_at_call 95; refine (i_inRange _ _ _ _).mono ?_; rintro e w' ⟨rfl, rfl⟩)
  go_ret
  exact ⟨rfl, rfl⟩
theorem i_ReceiptOk (r t : ByteArray) (n : Int) (hr : r.size ≤ 9223372036854775807) (ht : t.size ≤ 9223372036854775807) (w : World) :
    Calls Try.prog 62 #[.agg #[.string r, .string t, .int .i64 n]] w fun e w' => e = .returned (.bool (receiptOk r t n)) ∧ w.alloc (.cells #[.string r, .string t, .int .i64 n] 32) = w' := by
  cases h1 : nameOk r <;> cases h2 : nameOk t
  all_goals
    go_enter Try.func62, Try.ntmps62
    go_wp2_with (first | (go_at_call_of 99 r; refine (i_NameOk r hr _).mono ?_; rintro e w1 ⟨rfl, rfl⟩) | (go_at_call_of 99 t; refine (i_NameOk t ht _).mono ?_; rintro e w1 ⟨rfl, rfl⟩) | (go_at_call 100; refine (i_isIndex _ _).mono ?_; rintro e w1 ⟨rfl, rfl⟩))
    go_ret
    exact ⟨ret_bool (by simp [receiptOk, h1, h2]), rfl⟩
theorem s_ReceiptOk (r t : ByteArray) (n : Int) (hr : r.size ≤ 9223372036854775807) (ht : t.size ≤ 9223372036854775807) (w : World) :
    Calls Try.prog 59 #[.agg #[.string r, .string t, .int .i64 n]] w fun e w' => e = .returned (.bool (receiptOk r t n)) ∧ w.alloc (.cells #[.string r, .string t, .int .i64 n] 32) = w' := by
  cases h1 : nameOk r <;> cases h2 : nameOk t
  all_goals
    go_enter Try.func59, Try.ntmps59
    go_wp2_with (first | (go_at_call_of 98 r; refine (s_NameOk r hr _).mono ?_; rintro e w1 ⟨rfl, rfl⟩) | (go_at_call_of 98 t; refine (s_NameOk t ht _).mono ?_; rintro e w1 ⟨rfl, rfl⟩) | (go_at_call 66; refine (s_l01In _ _ _ _).mono ?_; rintro e w1 ⟨rfl, rfl⟩))
    go_ret
    exact ⟨ret_bool (by simp [receiptOk, h1, h2]), rfl⟩
theorem l_toReceipt (r t : ByteArray) (n : Int) (w : World) :
    Calls Try.prog 20 #[.agg #[.string r, .string t, .int .i64 n]] w fun e w' => e = .returned (.agg #[.string r, .string t, .int .i64 n]) ∧ ∃ o1 o2 o3, ((w.alloc o1).alloc o2).alloc o3 = w' := by
  go_enter Try.func20, Try.ntmps20
  go_wp2
  exact bodyPost_ret (v := .agg #[.string r, .string t, .int .i64 n]) (by simp [results, Try.results20, go_sem]) rfl ⟨rfl, _, _, _, rfl⟩
theorem l_szReceipt_in (r t : ByteArray) (n l : Int) (hl : (r.size : Int) + t.size ≤ l) (h2 : l ≤ 1048576) (w : World) :
    Calls Try.prog 18 #[.agg #[.string r, .string t, .int .i64 n], .int .i64 l] w fun e w' => e = .returned (.int .i64 (l - r.size - t.size)) ∧ w.alloc (.cells #[.string r, .string t, .int .i64 n] 29) = w' := by
  have g1 : 0 ≤ l - r.size := by omega
  have g2 : 0 ≤ l - r.size - t.size := by omega
  go_enter Try.func18, Try.ntmps18
  go_wp2
  go_ret
  exact ⟨rfl, rfl⟩
theorem l_szReceipt_out (r t : ByteArray) (n l : Int) (hl : l < (r.size : Int) + t.size) (h0 : 0 ≤ l) (h2 : l ≤ 1048576) (hr : r.size ≤ 9223372036854775807) (ht : t.size ≤ 9223372036854775807) (w : World) :
    Calls Try.prog 18 #[.agg #[.string r, .string t, .int .i64 n], .int .i64 l] w fun e w' => e = .returned (.int .i64 (-1)) ∧ w.alloc (.cells #[.string r, .string t, .int .i64 n] 29) = w' := by
  by_cases g1 : l - r.size < 0
  · go_enter Try.func18, Try.ntmps18
    go_wp2
    go_ret
    exact ⟨rfl, rfl⟩
  · have g2 : l - r.size - t.size < 0 := by omega
    go_enter Try.func18, Try.ntmps18
    go_wp2
    go_ret
    exact ⟨rfl, rfl⟩
theorem i_partsOk (tm : Int) (k b : ByteArray) (w : World) :
    Calls Try.prog 103 #[.int .i64 tm, .string k, .string b] w fun e w' => e = .returned (.bool (inR tm 0 1000000000 && decide (k.size ≤ 40) && decide (b.size ≤ 400))) ∧ w = w' := by
  cases h1 : inR tm 0 1000000000
  · go_enter Try.func103, Try.ntmps103
    go_wp2_with (go_at_call 95; refine (i_inRange _ _ _ _).mono ?_; rintro e w' ⟨rfl, rfl⟩)
    go_ret
    exact ⟨rfl, rfl⟩
  · by_cases h2 : (k.size : Int) ≤ 40
    · by_cases h3 : (b.size : Int) ≤ 400
      · go_enter Try.func103, Try.ntmps103
        go_wp2_with (go_at_call 95; refine (i_inRange _ _ _ _).mono ?_; rintro e w' ⟨rfl, rfl⟩)
        go_ret
        exact ⟨ret_bool (by simp; omega), rfl⟩
      · have d3 : decide ((b.size : Int) ≤ 400) = false := by simp; omega
        have h3' : (400 : Int) < b.size := by omega
        go_enter Try.func103, Try.ntmps103
        go_wp2_with (go_at_call 95; refine (i_inRange _ _ _ _).mono ?_; rintro e w' ⟨rfl, rfl⟩)
        go_ret
        exact ⟨ret_bool (by simp; omega), rfl⟩
    · have d2 : decide ((k.size : Int) ≤ 40) = false := by simp; omega
      have h2' : (40 : Int) < k.size := by omega
      go_enter Try.func103, Try.ntmps103
      go_wp2_with (go_at_call 95; refine (i_inRange _ _ _ _).mono ?_; rintro e w' ⟨rfl, rfl⟩)
      go_ret
      exact ⟨ret_bool (by simp; omega), rfl⟩
theorem i_EntryOk (t : ByteArray) (i tm : Int) (k b : ByteArray) (ht : t.size ≤ 9223372036854775807) (w : World) :
    Calls Try.prog 70 #[.agg #[.string t, .int .i64 i, .int .i64 tm, .string k, .string b]] w fun e w' => e = .returned (.bool (entryOk t i tm k b)) ∧ w.alloc (.cells #[.string t, .int .i64 i, .int .i64 tm, .string k, .string b] 41) = w' := by
  cases h1 : nameOk t <;> cases h2 : inR i 0 511
  all_goals
    go_enter Try.func70, Try.ntmps70
    go_wp2_with (first | (go_at_call 99; refine (i_NameOk t ht _).mono ?_; rintro e w1 ⟨rfl, rfl⟩) | (go_at_call 100; refine (i_isIndex _ _).mono ?_; rintro e w1 ⟨rfl, rfl⟩) | (go_at_call 103; refine (i_partsOk _ _ _ _).mono ?_; rintro e w1 ⟨rfl, rfl⟩))
    go_ret
    exact ⟨ret_bool (by simp [entryOk, h1, h2, Bool.and_assoc]), rfl⟩
theorem s_EntryOk (t : ByteArray) (i tm : Int) (k b : ByteArray) (ht : t.size ≤ 9223372036854775807) (w : World) :
    Calls Try.prog 69 #[.agg #[.string t, .int .i64 i, .int .i64 tm, .string k, .string b]] w fun e w' => e = .returned (.bool (entryOk t i tm k b)) ∧ w.alloc (.cells #[.string t, .int .i64 i, .int .i64 tm, .string k, .string b] 41) = w' := by
  have d2 : ∃ q, decide ((k.size : Int) ≤ 40) = q := ⟨_, rfl⟩
  obtain ⟨q2, d2⟩ := d2
  have d3 : ∃ q, decide ((b.size : Int) ≤ 400) = q := ⟨_, rfl⟩
  obtain ⟨q3, d3⟩ := d3
  have e2 : decide (k.size ≤ 40) = q2 := by rw [← d2]; simp; omega
  have e3 : decide (b.size ≤ 400) = q3 := by rw [← d3]; simp; omega
  have E2 := hide e2
  have E3 := hide e3
  clear e2 e3
  cases h1 : nameOk t <;> cases h2 : inR i 0 511 <;> cases h3 : inR tm 0 1000000000 <;> cases q2
  all_goals
    go_enter Try.func69, Try.ntmps69
    go_wp2_with (first | (go_at_call 98; refine (s_NameOk t ht _).mono ?_; rintro e w1 ⟨rfl, rfl⟩) | (go_at_call 66; refine (s_l01In _ _ _ _).mono ?_; rintro e w1 ⟨rfl, rfl⟩))
    go_ret
    exact ⟨ret_bool (by simp [entryOk, h1, h2, h3, E2.out, E3.out]), rfl⟩
theorem l_toEntry (t : ByteArray) (i tm : Int) (k b : ByteArray) (w : World) :
    Calls Try.prog 26 #[.agg #[.string t, .int .i64 i, .int .i64 tm, .string k, .string b]] w fun e w' => e = .returned (.agg #[.string t, .int .i64 i, .int .i64 tm, .string k, .string b]) ∧ ∃ o1 o2 o3, ((w.alloc o1).alloc o2).alloc o3 = w' := by
  go_enter Try.func26, Try.ntmps26
  go_wp2
  exact bodyPost_ret (v := .agg #[.string t, .int .i64 i, .int .i64 tm, .string k, .string b]) (by simp [results, Try.results26, go_sem]) rfl ⟨rfl, _, _, _, rfl⟩
theorem l_szEntry_in (t : ByteArray) (i tm : Int) (k b : ByteArray) (l : Int) (hl : (t.size : Int) + k.size + b.size ≤ l) (h2 : l ≤ 1048576) (w : World) :
    Calls Try.prog 24 #[.agg #[.string t, .int .i64 i, .int .i64 tm, .string k, .string b], .int .i64 l] w fun e w' => e = .returned (.int .i64 (l - t.size - k.size - b.size)) ∧ w.alloc (.cells #[.string t, .int .i64 i, .int .i64 tm, .string k, .string b] 38) = w' := by
  have g1 : 0 ≤ l - t.size := by omega
  have g2 : 0 ≤ l - t.size - k.size := by omega
  have g3 : 0 ≤ l - t.size - k.size - b.size := by omega
  go_enter Try.func24, Try.ntmps24
  go_wp2
  go_ret
  exact ⟨rfl, rfl⟩
theorem l_szEntry_out (t : ByteArray) (i tm : Int) (k b : ByteArray) (l : Int) (hl : l < (t.size : Int) + k.size + b.size) (h0 : 0 ≤ l) (h2 : l ≤ 1048576) (ht : t.size ≤ 9223372036854775807) (hk : k.size ≤ 9223372036854775807) (hb : b.size ≤ 9223372036854775807) (w : World) :
    Calls Try.prog 24 #[.agg #[.string t, .int .i64 i, .int .i64 tm, .string k, .string b], .int .i64 l] w fun e w' => e = .returned (.int .i64 (-1)) ∧ w.alloc (.cells #[.string t, .int .i64 i, .int .i64 tm, .string k, .string b] 38) = w' := by
  by_cases g1 : l - t.size < 0
  · go_enter Try.func24, Try.ntmps24
    go_wp2
    go_ret
    exact ⟨rfl, rfl⟩
  · by_cases g2 : l - t.size - k.size < 0
    · go_enter Try.func24, Try.ntmps24
      go_wp2
      go_ret
      exact ⟨rfl, rfl⟩
    · have g3 : l - t.size - k.size - b.size < 0 := by omega
      go_enter Try.func24, Try.ntmps24
      go_wp2
      go_ret
      exact ⟨rfl, rfl⟩
end Go.Proofs.Yticpedlcfakaeaa

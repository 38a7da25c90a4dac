/-
  The texts that are hashed: an octet, a pair, a short text; the receipt's text and the leaf's.
-/
import Derived.Test.YticpedlcfakaeaaWord
import Derived.Test.YticpedlcfakaeaaRec
import Derived.Test.YticpedlcfakaeaaBase
import Derived.Deep.RegionHeld3
import Derived.Handy
namespace Go.Proofs.Yticpedlcfakaeaa
set_option linter.unusedVariables false
open Go.RowKit

def one (a : Int) : ByteArray := strOfNums [a]
theorem one_size (a : Int) : (one a).size = 1 := strOfNums_size _
def oct (x : Int) : ByteArray := one (x % 256)
theorem oct_size (a : Int) : (oct a).size = 1 := one_size _
theorem big_not {n : Nat} (h : n ≤ 1000000) : ¬ 9223372036854775807 < n := by omega
def pairT (x : Int) : ByteArray := oct (x / 256) ++ oct x
def shortT (s : ByteArray) : ByteArray := oct s.size ++ s
theorem pairT_size (x : Int) : (pairT x).size = 2 := by simp [pairT, oct_size]
theorem shortT_size (s : ByteArray) : (shortT s).size = s.size + 1 := by simp [shortT, oct_size, Nat.add_comm]
theorem str_empty (s : ByteArray) : s ++ (⟨#[]⟩ : ByteArray) = s := ByteArray.append_empty
theorem run_one {P : Program} (T5 T9 T34 : TypeId) (h5 : P.underlying T5 = some (.int .u8)) (h9 : P.underlying T9 = some .string) (h34 : P.underlying T34 = some (.slice T5)) :
    ∀ (W : World) (a : Int) (b : Nat), b = W.heap.size → (convert T34 T9 (.slice (some ⟨b, 0, none⟩) 1 1)).run P (W.alloc (.cells #[.int .u8 a] T5)) =
      .ok (.string (one a)) (W.alloc (.cells #[.int .u8 a] T5)) := by
  rintro W a b rfl
  refine run_convert_bytes_arg _ _ _ h34 h5 W.heap.size 0 1 1 [a] rfl ?_ _ h9
  intro i hi
  have : i = 0 := by omega
  rcases this with rfl; simp [go_sem]

theorem i_octet (x : Int) (h0 : 0 ≤ x) (h1 : x ≤ 4294967295) (w : World) :
    Calls Try.prog 101 #[.int .i64 x] w fun e w' => e = .returned (.string (oct x)) ∧ Below w.heap.size w w' := by
  have kc := run_one (P := Try.prog) _ _ _ Try.underlying5 Try.underlying9 Try.underlying47
  go_enter Try.func101, Try.ntmps101
  go_wp2
  go_ret
  exact ⟨rfl, (Below.refl _ _).alloc (Nat.le_refl _) _⟩
set_option maxHeartbeats 1000000 in
theorem s_num1 (x : Int) (h0 : 0 ≤ x) (h1 : x ≤ 4294967295) (w : World) :
    Calls Try.prog 61 #[.int .i64 x, .int .i64 1] w fun e w' => e = .returned (.string (oct x)) ∧ Below w.heap.size w w' := by
  have kc := run_one (P := Try.prog) _ _ _ Try.underlying5 Try.underlying9 Try.underlying47
  have he := str_empty
  have z1 := one_size
  go_enter Try.func61, Try.ntmps61
  go_wp2
  go_rounds 3
  go_ret
  exact ⟨ret_str (by simp [oct]), by repeat (first | exact Below.refl _ _ | refine Below.alloc ?_ (by simp; try omega) _)⟩
set_option maxRecDepth 100000 in
set_option maxHeartbeats 2000000 in
theorem s_num2 (x : Int) (h0 : 0 ≤ x) (h1 : x ≤ 65535) (w : World) :
    Calls Try.prog 61 #[.int .i64 x, .int .i64 2] w fun e w' => e = .returned (.string (pairT x)) ∧ Below w.heap.size w w' := by
  have kc := run_one (P := Try.prog) _ _ _ Try.underlying5 Try.underlying9 Try.underlying47
  have he := str_empty
  have z1 := one_size
  go_enter Try.func61, Try.ntmps61
  go_wp2
  go_rounds 4
  go_ret
  exact ⟨ret_str (by simp [oct, pairT]), by repeat (first | exact Below.refl _ _ | with_reducible refine Below.alloc ?_ (by simp; try omega) _)⟩
theorem strOfNums_four (a b c d : Int) : one a ++ (one b ++ (one c ++ one d)) = strOfNums [a, b, c, d] := by
  apply ByteArray.ext
  simp [one, strOfNums]
set_option maxRecDepth 100000 in
set_option maxHeartbeats 4000000 in
theorem s_num4 (x : Int) (h0 : 0 ≤ x) (h1 : x ≤ 1000000000) (w : World) :
    Calls Try.prog 61 #[.int .i64 x, .int .i64 4] w fun e w' => e = .returned (.string (wordText x)) ∧ Below w.heap.size w w' := by
  have kc := run_one (P := Try.prog) _ _ _ Try.underlying5 Try.underlying9 Try.underlying47
  have he := str_empty
  have z1 := one_size
  go_enter Try.func61, Try.ntmps61
  go_wp2
  go_rounds 6
  go_ret
  refine ⟨ret_str ?_, by repeat (first | exact Below.refl _ _ | with_reducible refine Below.alloc ?_ (by simp; try omega) _)⟩
  have e1 : x / 256 / 256 / 256 % 256 = x / 16777216 := by omega
  have e2 : x / 256 / 256 % 256 = x / 65536 % 256 := by omega
  simp [wordText, ← strOfNums_four, e1, e2]
theorem i_pair (x : Int) (h0 : 0 ≤ x) (h1 : x ≤ 65535) (w : World) :
    Calls Try.prog 64 #[.int .i64 x] w fun e w' => e = .returned (.string (pairT x)) ∧ Below w.heap.size w w' := by
  have g : ¬ 9223372036854775807 < (oct (x / 256)).size + (oct x).size := by rw [oct_size, oct_size]; omega
  go_enter Try.func64, Try.ntmps64
  go_wp2_with (go_at_call 101; refine (i_octet _ (by omega) (by omega) _).mono ?_; rintro e w1 ⟨rfl, hb⟩)
  go_ret
  exact ⟨rfl, bel_new ‹Below w.heap.size w _› ‹_› (‹Below w.heap.size w _›).size⟩
theorem i_short (s : ByteArray) (h : s.size ≤ 200) (w : World) :
    Calls Try.prog 63 #[.string s] w fun e w' => e = .returned (.string (shortT s)) ∧ Below w.heap.size w w' := by
  have g : ¬ 9223372036854775807 < (oct s.size).size + s.size := by rw [oct_size]; omega
  go_enter Try.func63, Try.ntmps63
  go_wp2_with (go_at_call 101; refine (i_octet _ (by omega) (by omega) _).mono ?_; rintro e w1 ⟨rfl, hb⟩)
  go_ret
  exact ⟨rfl, ‹_›⟩
theorem s_short (s : ByteArray) (h : s.size ≤ 200) (w : World) :
    Calls Try.prog 60 #[.string s] w fun e w' => e = .returned (.string (shortT s)) ∧ Below w.heap.size w w' := by
  have g : ¬ 9223372036854775807 < (oct s.size).size + s.size := by rw [oct_size]; omega
  go_enter Try.func60, Try.ntmps60
  go_wp2_with (go_at_call 61; refine (s_num1 _ (by omega) (by omega) _).mono ?_; rintro e w1 ⟨rfl, hb⟩)
  go_ret
  exact ⟨rfl, ‹_›⟩
theorem name_size {s : ByteArray} (h : nameOk s = true) : s.size ≤ 20 := by
  simp only [nameOk, inR, Bool.and_eq_true, decide_eq_true_eq] at h
  omega
theorem bel_drew {B : Nat} {a w : World} (h : Below B a w) : Below B a w.drew := h.trans ⟨rfl, rfl, rfl, Nat.le_refl _, fun _ _ => rfl⟩
theorem keep3 {W w w1 : World} {N : Nat} {c0 c1 c2 : Value} (h : w.cell? ⟨N, 0, none⟩ = some c0 ∧ w.cell? ⟨N, 1, none⟩ = some c1 ∧ w.cell? ⟨N, 2, none⟩ = some c2 ∧ Below N W w) (hb : Below w.heap.size w w1) (hN : N ≤ W.heap.size) :
    w1.cell? ⟨N, 0, none⟩ = some c0 ∧ w1.cell? ⟨N, 1, none⟩ = some c1 ∧ w1.cell? ⟨N, 2, none⟩ = some c2 ∧ Below N W w1 := by
  have hl := cell_lt h.1
  have k := (bcell hb).1
  exact ⟨by rw [k _ _ hl]; exact h.1, by rw [k _ _ hl]; exact h.2.1, by rw [k _ _ hl]; exact h.2.2.1, bel_new h.2.2.2 hb (by simp at hl; omega)⟩
theorem keep5 {W w w1 : World} {N : Nat} {c0 c1 c2 c3 c4 : Value} (h : w.cell? ⟨N, 0, none⟩ = some c0 ∧ w.cell? ⟨N, 1, none⟩ = some c1 ∧ w.cell? ⟨N, 2, none⟩ = some c2 ∧ w.cell? ⟨N, 3, none⟩ = some c3 ∧ w.cell? ⟨N, 4, none⟩ = some c4 ∧ Below N W w) (hb : Below w.heap.size w w1) :
    w1.cell? ⟨N, 0, none⟩ = some c0 ∧ w1.cell? ⟨N, 1, none⟩ = some c1 ∧ w1.cell? ⟨N, 2, none⟩ = some c2 ∧ w1.cell? ⟨N, 3, none⟩ = some c3 ∧ w1.cell? ⟨N, 4, none⟩ = some c4 ∧ Below N W w1 := by
  have hl := cell_lt h.1
  have k := (bcell hb).1
  exact ⟨by rw [k _ _ hl]; exact h.1, by rw [k _ _ hl]; exact h.2.1, by rw [k _ _ hl]; exact h.2.2.1, by rw [k _ _ hl]; exact h.2.2.2.1, by rw [k _ _ hl]; exact h.2.2.2.2.1, bel_new h.2.2.2.2.2 hb (by simp at hl; omega)⟩
/-- The receipt's text. -/
def receiptText (r t : ByteArray) (n : Int) : ByteArray := if receiptOk r t n then ⟨#[82]⟩ ++ shortT r ++ shortT t ++ pairT n else ByteArray.empty
theorem ret_two {a b c d : Value} (h1 : a = c) (h2 : b = d) : Ending.returned (.tuple #[a, b]) = .returned (.tuple #[c, d]) := by rw [h1, h2]
set_option maxHeartbeats 2000000 in
theorem i_ReceiptText (r t : ByteArray) (n : Int) (hr : r.size ≤ 9223372036854775807) (ht : t.size ≤ 9223372036854775807) (w : World) :
    Calls Try.prog 21 #[.agg #[.string r, .string t, .int .i64 n]] w fun e w' => e = .returned (.tuple #[.string (receiptText r t n), .bool (receiptOk r t n)]) ∧ Below w.heap.size w w' := by
  unfold receiptText
  cases hk : receiptOk r t n
  · go_enter Try.func21, Try.ntmps21
    go_wp2_with (go_at_call 62; refine (i_ReceiptOk r t n hr ht _).mono ?_; rintro e w1 ⟨rfl, rfl⟩)
    go_ret2
    exact ⟨rfl, by repeat (first | exact Below.refl _ _ | with_reducible refine Below.alloc ?_ (by simp; try omega) _)⟩
  · obtain ⟨hr1, ht1, hn1, hn2⟩ : r.size ≤ 200 ∧ t.size ≤ 200 ∧ 0 ≤ n ∧ n ≤ 65535 := by
      simp only [receiptOk, Bool.and_eq_true] at hk
      obtain ⟨⟨h1, h2⟩, h3⟩ := hk
      have := name_size h1
      have := name_size h2
      simp only [inR, Bool.and_eq_true, decide_eq_true_eq] at h3
      omega
    have g1 : ¬ 9223372036854775807 < 1 + (shortT r).size := big_not (by rw [shortT_size]; omega)
    have g2 : ¬ 9223372036854775807 < 1 + (shortT r).size + (shortT t).size := big_not (by rw [shortT_size, shortT_size]; omega)
    have g3 : ¬ 9223372036854775807 < 1 + (shortT r).size + (shortT t).size + (pairT n).size := big_not (by rw [shortT_size, shortT_size, pairT_size]; omega)
    go_enter Try.func21, Try.ntmps21
    go_wp2_with (go_at_call 62; refine (i_ReceiptOk r t n hr ht _).mono ?_; rintro e w1 ⟨rfl, rfl⟩)
    go_region_held3 (fun w' => w'.cell? ⟨w.heap.size, 0, none⟩ = some (.string r) ∧ w'.cell? ⟨w.heap.size, 1, none⟩ = some (.string t) ∧ w'.cell? ⟨w.heap.size, 2, none⟩ = some (.int .i64 n) ∧ Below w.heap.size w w')
      (first | assumption | exact keep3 (by assumption) (by assumption) (Nat.le_refl _) | exact ⟨by simp, by simp, by simp, by repeat (first | exact Below.refl _ _ | with_reducible refine bel_drew ?_ | with_reducible refine Below.alloc ?_ (by simp; try omega) _)⟩)
      (first | (go_at_call 63; refine (i_short _ (by assumption) _).mono ?_; rintro e w1 ⟨rfl, hb⟩) | (go_at_call 64; refine (i_pair _ (by omega) (by omega) _).mono ?_; rintro e w1 ⟨rfl, hb⟩))
    go_wp2
    go_ret2
    exact ⟨rfl, by simp_all⟩
set_option maxHeartbeats 2000000 in
theorem s_ReceiptText (r t : ByteArray) (n : Int) (hr : r.size ≤ 9223372036854775807) (ht : t.size ≤ 9223372036854775807) (w : World) :
    Calls Try.prog 19 #[.agg #[.string r, .string t, .int .i64 n]] w fun e w' => e = .returned (.tuple #[.string (receiptText r t n), .bool (receiptOk r t n)]) ∧ Below w.heap.size w w' := by
  unfold receiptText
  cases hk : receiptOk r t n
  · go_enter Try.func19, Try.ntmps19
    go_wp2_with (go_at_call 59; refine (s_ReceiptOk r t n hr ht _).mono ?_; rintro e w1 ⟨rfl, rfl⟩)
    go_ret2
    exact ⟨rfl, by repeat (first | exact Below.refl _ _ | with_reducible refine Below.alloc ?_ (by simp; try omega) _)⟩
  · obtain ⟨hr1, ht1, hn1, hn2⟩ : r.size ≤ 200 ∧ t.size ≤ 200 ∧ 0 ≤ n ∧ n ≤ 65535 := by
      simp only [receiptOk, Bool.and_eq_true] at hk
      obtain ⟨⟨h1, h2⟩, h3⟩ := hk
      have := name_size h1
      have := name_size h2
      simp only [inR, Bool.and_eq_true, decide_eq_true_eq] at h3
      omega
    have g1 : ¬ 9223372036854775807 < 1 + (shortT r).size := big_not (by rw [shortT_size]; omega)
    have g2 : ¬ 9223372036854775807 < 1 + (shortT r).size + (shortT t).size := big_not (by rw [shortT_size, shortT_size]; omega)
    have g3 : ¬ 9223372036854775807 < 1 + (shortT r).size + (shortT t).size + (pairT n).size := big_not (by rw [shortT_size, shortT_size, pairT_size]; omega)
    go_enter Try.func19, Try.ntmps19
    go_wp2_with (go_at_call 59; refine (s_ReceiptOk r t n hr ht _).mono ?_; rintro e w1 ⟨rfl, rfl⟩)
    go_region_held3 (fun w' => w'.cell? ⟨w.heap.size, 0, none⟩ = some (.string r) ∧ w'.cell? ⟨w.heap.size, 1, none⟩ = some (.string t) ∧ w'.cell? ⟨w.heap.size, 2, none⟩ = some (.int .i64 n) ∧ Below w.heap.size w w')
      (first | assumption | exact keep3 (by assumption) (by assumption) (Nat.le_refl _) | exact ⟨by simp, by simp, by simp, by repeat (first | exact Below.refl _ _ | with_reducible refine bel_drew ?_ | with_reducible refine Below.alloc ?_ (by simp; try omega) _)⟩)
      (first | (go_at_call 60; refine (s_short _ (by assumption) _).mono ?_; rintro e w1 ⟨rfl, hb⟩) | (go_at_call 61; refine (s_num2 _ (by omega) (by omega) _).mono ?_; rintro e w1 ⟨rfl, hb⟩))
    go_wp2
    go_ret2
    exact ⟨rfl, by simp_all⟩
theorem keep5d {W w : World} {N : Nat} {c0 c1 c2 c3 c4 : Value} (h : w.cell? ⟨N, 0, none⟩ = some c0 ∧ w.cell? ⟨N, 1, none⟩ = some c1 ∧ w.cell? ⟨N, 2, none⟩ = some c2 ∧ w.cell? ⟨N, 3, none⟩ = some c3 ∧ w.cell? ⟨N, 4, none⟩ = some c4 ∧ Below N W w) :
    w.drew.cell? ⟨N, 0, none⟩ = some c0 ∧ w.drew.cell? ⟨N, 1, none⟩ = some c1 ∧ w.drew.cell? ⟨N, 2, none⟩ = some c2 ∧ w.drew.cell? ⟨N, 3, none⟩ = some c3 ∧ w.drew.cell? ⟨N, 4, none⟩ = some c4 ∧ Below N W w.drew :=
  ⟨h.1, h.2.1, h.2.2.1, h.2.2.2.1, h.2.2.2.2.1, bel_drew h.2.2.2.2.2⟩
theorem wordText_size (x : Int) : (wordText x).size = 4 := strOfNums_size _
/-- The leaf's text. -/
def leafText (t : ByteArray) (i tm : Int) (k b : ByteArray) : ByteArray := if entryOk t i tm k b then ⟨#[69]⟩ ++ shortT t ++ pairT i ++ wordText tm ++ shortT k ++ pairT b.size ++ b else ByteArray.empty
set_option maxRecDepth 100000 in
set_option maxHeartbeats 4000000 in
theorem i_LeafText (t : ByteArray) (i tm : Int) (k b : ByteArray) (ht : t.size ≤ 9223372036854775807) (w : World) :
    Calls Try.prog 27 #[.agg #[.string t, .int .i64 i, .int .i64 tm, .string k, .string b]] w fun e w' => e = .returned (.tuple #[.string (leafText t i tm k b), .bool (entryOk t i tm k b)]) ∧ Below w.heap.size w w' := by
  unfold leafText
  cases hk : entryOk t i tm k b
  · go_enter Try.func27, Try.ntmps27
    go_wp2_with (go_at_call 70; refine (i_EntryOk t i tm k b ht _).mono ?_; rintro e w1 ⟨rfl, rfl⟩)
    go_ret2
    exact ⟨rfl, by repeat (first | exact Below.refl _ _ | with_reducible refine Below.alloc ?_ (by simp; try omega) _)⟩
  · obtain ⟨ht1, hk1, hb1, hi1, hi2, hm1, hm2⟩ : t.size ≤ 200 ∧ k.size ≤ 200 ∧ b.size ≤ 400 ∧ 0 ≤ i ∧ i ≤ 511 ∧ 0 ≤ tm ∧ tm ≤ 1000000000 := by
      simp only [entryOk, Bool.and_eq_true, decide_eq_true_eq] at hk
      obtain ⟨⟨⟨⟨h1, h2⟩, h3⟩, h4⟩, h5⟩ := hk
      have := name_size h1
      simp only [inR, Bool.and_eq_true, decide_eq_true_eq] at h2 h3
      omega
    have g1 : ¬ 9223372036854775807 < 1 + (shortT t).size := big_not (by rw [shortT_size]; omega)
    have g2 : ¬ 9223372036854775807 < 1 + (shortT t).size + (pairT i).size := big_not (by rw [shortT_size, pairT_size]; omega)
    have g3 : ¬ 9223372036854775807 < 1 + (shortT t).size + (pairT i).size + (wordText tm).size := big_not (by rw [shortT_size, pairT_size, wordText_size]; omega)
    have g4 : ¬ 9223372036854775807 < 1 + (shortT t).size + (pairT i).size + (wordText tm).size + (shortT k).size := big_not (by rw [shortT_size, shortT_size, pairT_size, wordText_size]; omega)
    have g5 : ¬ 9223372036854775807 < 1 + (shortT t).size + (pairT i).size + (wordText tm).size + (shortT k).size + (pairT b.size).size := big_not (by rw [shortT_size, shortT_size, pairT_size, pairT_size, wordText_size]; omega)
    have g6 : ¬ 9223372036854775807 < 1 + (shortT t).size + (pairT i).size + (wordText tm).size + (shortT k).size + (pairT b.size).size + b.size := big_not (by rw [shortT_size, shortT_size, pairT_size, pairT_size, wordText_size]; omega)
    have y1 : IntKind.u32.wrap tm = tm := IntWalk.u32_in _ ⟨by omega, by omega⟩
    go_enter Try.func27, Try.ntmps27
    go_wp2_with (go_at_call 70; refine (i_EntryOk t i tm k b ht _).mono ?_; rintro e w1 ⟨rfl, rfl⟩)
    go_region_held3 (fun w' => w'.cell? ⟨w.heap.size, 0, none⟩ = some (.string t) ∧ w'.cell? ⟨w.heap.size, 1, none⟩ = some (.int .i64 i) ∧ w'.cell? ⟨w.heap.size, 2, none⟩ = some (.int .i64 tm) ∧ w'.cell? ⟨w.heap.size, 3, none⟩ = some (.string k) ∧ w'.cell? ⟨w.heap.size, 4, none⟩ = some (.string b) ∧ Below w.heap.size w w')
      (first | assumption | exact keep5 (by assumption) (by assumption) | exact keep5d (by assumption) | exact ⟨by simp, by simp, by simp, by simp, by simp, by repeat (first | exact Below.refl _ _ | with_reducible refine bel_drew ?_ | with_reducible refine Below.alloc ?_ (by simp; try omega) _)⟩)
      (first | (go_at_call 63; refine (i_short _ (by assumption) _).mono ?_; rintro e w1 ⟨rfl, hb⟩) | (go_at_call 64; refine (i_pair _ (by omega) (by omega) _).mono ?_; rintro e w1 ⟨rfl, hb⟩) | (go_at_call 41; refine (i_WordText _ (by omega) (by omega) _).mono ?_; rintro e w1 ⟨rfl, hb⟩))
    go_wp2
    go_region_held3 (fun w' => w'.cell? ⟨w.heap.size, 0, none⟩ = some (.string t) ∧ w'.cell? ⟨w.heap.size, 1, none⟩ = some (.int .i64 i) ∧ w'.cell? ⟨w.heap.size, 2, none⟩ = some (.int .i64 tm) ∧ w'.cell? ⟨w.heap.size, 3, none⟩ = some (.string k) ∧ w'.cell? ⟨w.heap.size, 4, none⟩ = some (.string b) ∧ Below w.heap.size w w')
      (first | assumption | exact keep5 (by assumption) (by assumption) | exact keep5d (by assumption) | exact ⟨by simp, by simp, by simp, by simp, by simp, by repeat (first | exact Below.refl _ _ | with_reducible refine bel_drew ?_ | with_reducible refine Below.alloc ?_ (by simp; try omega) _)⟩)
      (first | (go_at_call 63; refine (i_short _ (by assumption) _).mono ?_; rintro e w1 ⟨rfl, hb⟩) | (go_at_call 64; refine (i_pair _ (by omega) (by omega) _).mono ?_; rintro e w1 ⟨rfl, hb⟩) | (go_at_call 41; refine (i_WordText _ (by omega) (by omega) _).mono ?_; rintro e w1 ⟨rfl, hb⟩))
    go_wp2
    go_ret2
    exact ⟨rfl, by simp_all⟩
set_option maxRecDepth 100000 in
set_option maxHeartbeats 4000000 in
theorem s_LeafText (t : ByteArray) (i tm : Int) (k b : ByteArray) (ht : t.size ≤ 9223372036854775807) (w : World) :
    Calls Try.prog 25 #[.agg #[.string t, .int .i64 i, .int .i64 tm, .string k, .string b]] w fun e w' => e = .returned (.tuple #[.string (leafText t i tm k b), .bool (entryOk t i tm k b)]) ∧ Below w.heap.size w w' := by
  unfold leafText
  cases hk : entryOk t i tm k b
  · go_enter Try.func25, Try.ntmps25
    go_wp2_with (go_at_call 69; refine (s_EntryOk t i tm k b ht _).mono ?_; rintro e w1 ⟨rfl, rfl⟩)
    go_ret2
    exact ⟨rfl, by repeat (first | exact Below.refl _ _ | with_reducible refine Below.alloc ?_ (by simp; try omega) _)⟩
  · obtain ⟨ht1, hk1, hb1, hi1, hi2, hm1, hm2⟩ : t.size ≤ 200 ∧ k.size ≤ 200 ∧ b.size ≤ 400 ∧ 0 ≤ i ∧ i ≤ 511 ∧ 0 ≤ tm ∧ tm ≤ 1000000000 := by
      simp only [entryOk, Bool.and_eq_true, decide_eq_true_eq] at hk
      obtain ⟨⟨⟨⟨h1, h2⟩, h3⟩, h4⟩, h5⟩ := hk
      have := name_size h1
      simp only [inR, Bool.and_eq_true, decide_eq_true_eq] at h2 h3
      omega
    have g1 : ¬ 9223372036854775807 < 1 + (shortT t).size := big_not (by rw [shortT_size]; omega)
    have g2 : ¬ 9223372036854775807 < 1 + (shortT t).size + (pairT i).size := big_not (by rw [shortT_size, pairT_size]; omega)
    have g3 : ¬ 9223372036854775807 < 1 + (shortT t).size + (pairT i).size + (wordText tm).size := big_not (by rw [shortT_size, pairT_size, wordText_size]; omega)
    have g4 : ¬ 9223372036854775807 < 1 + (shortT t).size + (pairT i).size + (wordText tm).size + (shortT k).size := big_not (by rw [shortT_size, shortT_size, pairT_size, wordText_size]; omega)
    have g5 : ¬ 9223372036854775807 < 1 + (shortT t).size + (pairT i).size + (wordText tm).size + (shortT k).size + (pairT b.size).size := big_not (by rw [shortT_size, shortT_size, pairT_size, pairT_size, wordText_size]; omega)
    have g6 : ¬ 9223372036854775807 < 1 + (shortT t).size + (pairT i).size + (wordText tm).size + (shortT k).size + (pairT b.size).size + b.size := big_not (by rw [shortT_size, shortT_size, pairT_size, pairT_size, wordText_size]; omega)
    have y1 : IntKind.u32.wrap tm = tm := IntWalk.u32_in _ ⟨by omega, by omega⟩
    go_enter Try.func25, Try.ntmps25
    go_wp2_with (go_at_call 69; refine (s_EntryOk t i tm k b ht _).mono ?_; rintro e w1 ⟨rfl, rfl⟩)
    go_region_held3 (fun w' => w'.cell? ⟨w.heap.size, 0, none⟩ = some (.string t) ∧ w'.cell? ⟨w.heap.size, 1, none⟩ = some (.int .i64 i) ∧ w'.cell? ⟨w.heap.size, 2, none⟩ = some (.int .i64 tm) ∧ w'.cell? ⟨w.heap.size, 3, none⟩ = some (.string k) ∧ w'.cell? ⟨w.heap.size, 4, none⟩ = some (.string b) ∧ Below w.heap.size w w')
      (first | assumption | exact keep5 (by assumption) (by assumption) | exact keep5d (by assumption) | exact ⟨by simp, by simp, by simp, by simp, by simp, by repeat (first | exact Below.refl _ _ | with_reducible refine bel_drew ?_ | with_reducible refine Below.alloc ?_ (by simp; try omega) _)⟩)
      (first | (go_at_call 60; refine (s_short _ (by assumption) _).mono ?_; rintro e w1 ⟨rfl, hb⟩) | (go_at_call_of 61 tm; refine (s_num4 _ (by omega) (by omega) _).mono ?_; rintro e w1 ⟨rfl, hb⟩) | (go_at_call 61; refine (s_num2 _ (by omega) (by omega) _).mono ?_; rintro e w1 ⟨rfl, hb⟩))
    go_wp2
    go_ret2
    exact ⟨rfl, by simp_all⟩
end Go.Proofs.Yticpedlcfakaeaa

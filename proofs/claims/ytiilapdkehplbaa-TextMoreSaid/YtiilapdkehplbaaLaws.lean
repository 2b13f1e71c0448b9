/- The walks of the seven statements of layer 8. -/
import Derived.Test.YtiilapdkehplbaaAwake
set_option linter.unusedVariables false
namespace Go.Proofs.Ytiilapdkehplbaa
open Go.RowKit
theorem many_low (n : Int) (w : World) (h : n < 0) (h2 : -9223372036854775808 ≤ n) : Calls Try.prog 14 #[.int .i64 n] w fun e w' => e = .returned (.int .i64 0) ∧ w = w' := by
  have hd : decide (n < 0) = true := by simp [h]
  go_enter Try.func14, Try.ntmps14
  go_wp2
  go_ret
  exact ⟨rfl, rfl⟩
theorem many_high (n : Int) (w : World) (h : 1000 < n) : Calls Try.prog 14 #[.int .i64 n] w fun e w' => e = .returned (.int .i64 0) ∧ w = w' := by
  go_enter Try.func14, Try.ntmps14
  go_wp2
  go_ret
  exact ⟨rfl, rfl⟩
theorem many_mid (n : Int) (w : World) (h : 0 ≤ n) (h2 : n ≤ 1000) : Calls Try.prog 14 #[.int .i64 n] w fun e w' => e = .returned (.int .i64 (1 + (n + 7) / 8)) ∧ w = w' := by
  go_enter Try.func14, Try.ntmps14
  go_wp2
  go_ret
  exact ⟨ret_int (by omega), rfl⟩
/-- a text's words, or nothing; the error -/
def wordsR (s : ByteArray) : List Nat := if s.size ≤ 1000 then wordsL s.data.toList else []
def errR (s : ByteArray) : Int := if s.size ≤ 1000 then 0 else 4
def WordsForm (w : World) (s : ByteArray) (e : Ending) (w' : World) : Prop :=
  ∃ A c, e = .returned (.tuple #[.slice A (wordsR s).length c, .int .i64 (errR s)]) ∧ U64s w' A (wordsR s) ∧ Below w.heap.size w w'
theorem words_form {s : ByteArray} {w w' : World} {e : Ending} (h : WordsPost w s e w') : WordsForm w s e w' := by
  obtain ⟨hb, ⟨hs, A, c, rfl, hu⟩ | ⟨hs, rfl⟩⟩ := h
  · refine ⟨A, c, ?_, ?_, hb⟩
    · unfold wordsR errR; rw [if_pos hs, if_pos hs]
    · unfold wordsR; rw [if_pos hs]; exact hu
  · refine ⟨none, 0, ?_, ?_, hb⟩
    · unfold wordsR errR; rw [if_neg (by omega), if_neg (by omega)]; rfl
    · unfold wordsR; rw [if_neg (by omega)]; exact .inl rfl
theorem words_a (s : ByteArray) (w : World) (hs : s.size ≤ 9223372036854775807) : Calls Try.prog 11 #[.string s] w (WordsForm w s) := ((words_all s w hs).1).mono fun _ _ h => words_form h
theorem words_b (s : ByteArray) (w : World) (hs : s.size ≤ 9223372036854775807) : Calls Try.prog 12 #[.string s] w (WordsForm w s) := ((words_all s w hs).2).mono fun _ _ h => words_form h
theorem wordsR_length (s : ByteArray) : (wordsR s).length ≤ 126 := by
  unfold wordsR
  split
  · rw [wordsL_length, size_list]; unfold many; omega
  · simp
theorem wordsR_lt (s : ByteArray) (j : Nat) : (wordsR s)[j]?.getD 0 < 18446744073709551616 := by
  unfold wordsR
  split
  · rename_i h; exact wordsL_lt s h j
  · simp
theorem same_self (A A' : Option Addr) (c c' : Nat) (l : List Nat) (w : World) (hl : l.length ≤ 9223372036854775807) (h : U64s w A l) (h' : U64s w A' l) :
    Calls Try.prog 13 #[.slice A l.length c, .slice A' l.length c'] w fun e w' => e = .returned (.bool true) ∧ Below w.heap.size w w' :=
  (same_any A A' c c' l l w hl hl h h').mono fun e w' ⟨he, d, hw⟩ => ⟨by rw [he, decide_eq_true rfl], hw ▸ drewN_below w d⟩
set_option maxRecDepth 100000 in
theorem textWords_walk (s : ByteArray) (n : Int) (w : World) (hs : s.size ≤ 9223372036854775807) (hn : -9223372036854775808 ≤ n) (hn2 : n ≤ 9223372036854775807) :
    Calls Try.prog 3 #[.string s, .int .i64 n] w (Yes w) := by
  have hA := Lib.hid (words_a s)
  have hB := Lib.hid (words_b s)
  have hlen := wordsR_length s
  by_cases hbig : 2000 < s.size
  · go_enter Try.func3, Try.ntmps3
    go_wp2_with (go_at_call 10; refine (awake_any _).mono ?_; rintro e w' ⟨rfl, hb⟩)
    go_ret
    exact ⟨rfl, hb⟩
  rcases (show n < 0 ∨ 1000 < n ∨ 0 ≤ n ∧ n ≤ 1000 by omega) with hc | hc | ⟨hc, hc2⟩
  · have hd : decide (0 ≤ n) = false := by simp; omega
    go_enter Try.func3, Try.ntmps3
    go_wp2_with fail
    refine (hA.out w (by omega)).mono ?_
    rintro e1 w1 ⟨A, c, rfl, hu1, hb1⟩
    have HB1 := Lib.hid hb1
    have HU1 := Lib.hid hu1
    clear hb1 hu1
    go_wp2_with fail
    refine (hB.out w1 (by omega)).mono ?_
    rintro e2 w2 ⟨A', c', rfl, hu2, hb2⟩
    have HQ := Lib.hid (same_self A A' c c' (wordsR s) w2 (by omega) (HU1.out.below hb2) hu2)
    have HB2 := Lib.hid (HB1.out.trans (hb2.mono HB1.out.size))
    clear hb2 hu2
    go_wp2_with fail
    refine (HQ.out).mono ?_
    rintro e3 w3 ⟨rfl, hb3⟩
    have HB3 := Lib.hid (HB2.out.trans (hb3.mono HB2.out.size))
    clear hb3
    go_wp2_with (first | (go_at_call 14; refine (many_low n _ hc hn).mono ?_; rintro e w' ⟨rfl, rfl⟩) | (go_at_call 10; refine (awake_any _).mono ?_; rintro e w' ⟨rfl, hb⟩))
    go_ret
    exact ⟨rfl, HB3.out.trans (hb.mono HB3.out.size)⟩
  · have hd : decide (0 ≤ n) = true := by simp; omega
    go_enter Try.func3, Try.ntmps3
    go_wp2_with fail
    refine (hA.out w (by omega)).mono ?_
    rintro e1 w1 ⟨A, c, rfl, hu1, hb1⟩
    have HB1 := Lib.hid hb1
    have HU1 := Lib.hid hu1
    clear hb1 hu1
    go_wp2_with fail
    refine (hB.out w1 (by omega)).mono ?_
    rintro e2 w2 ⟨A', c', rfl, hu2, hb2⟩
    have HQ := Lib.hid (same_self A A' c c' (wordsR s) w2 (by omega) (HU1.out.below hb2) hu2)
    have HB2 := Lib.hid (HB1.out.trans (hb2.mono HB1.out.size))
    clear hb2 hu2
    go_wp2_with fail
    refine (HQ.out).mono ?_
    rintro e3 w3 ⟨rfl, hb3⟩
    have HB3 := Lib.hid (HB2.out.trans (hb3.mono HB2.out.size))
    clear hb3
    go_wp2_with (first | (go_at_call 14; refine (many_high n _ hc).mono ?_; rintro e w' ⟨rfl, rfl⟩) | (go_at_call 10; refine (awake_any _).mono ?_; rintro e w' ⟨rfl, hb⟩))
    go_ret
    exact ⟨rfl, HB3.out.trans (hb.mono HB3.out.size)⟩
  · have hd : decide (0 ≤ n) = true := by simp; omega
    go_enter Try.func3, Try.ntmps3
    go_wp2_with fail
    refine (hA.out w (by omega)).mono ?_
    rintro e1 w1 ⟨A, c, rfl, hu1, hb1⟩
    have HB1 := Lib.hid hb1
    have HU1 := Lib.hid hu1
    clear hb1 hu1
    go_wp2_with fail
    refine (hB.out w1 (by omega)).mono ?_
    rintro e2 w2 ⟨A', c', rfl, hu2, hb2⟩
    have HQ := Lib.hid (same_self A A' c c' (wordsR s) w2 (by omega) (HU1.out.below hb2) hu2)
    have HB2 := Lib.hid (HB1.out.trans (hb2.mono HB1.out.size))
    clear hb2 hu2
    go_wp2_with fail
    refine (HQ.out).mono ?_
    rintro e3 w3 ⟨rfl, hb3⟩
    have HB3 := Lib.hid (HB2.out.trans (hb3.mono HB2.out.size))
    clear hb3
    go_wp2_with (first | (go_at_call 14; refine (many_mid n _ hc hc2).mono ?_; rintro e w' ⟨rfl, rfl⟩) | (go_at_call 10; refine (awake_any _).mono ?_; rintro e w' ⟨rfl, hb⟩))
    go_ret
    exact ⟨rfl, HB3.out.trans (hb.mono HB3.out.size)⟩
end Go.Proofs.Ytiilapdkehplbaa

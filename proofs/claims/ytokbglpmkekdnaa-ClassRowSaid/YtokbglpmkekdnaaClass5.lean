/- The walks of the seven statements of layer 3. -/
import Derived.Test.YtokbglpmkekdnaaClass4
set_option linter.unusedVariables false
set_option linter.unusedSimpArgs false
namespace Go.Proofs.Ytokbglpmkekdnaa
open Go.RowKit Go.Shelf
theorem slotsN_le (c : Nat) (h : c < 8) : slotsN c * sz c ≤ 62 ∧ 2 ≤ slotsN c := by
  have : c = 0 ∨ c = 1 ∨ c = 2 ∨ c = 3 ∨ c = 4 ∨ c = 5 ∨ c = 6 ∨ c = 7 := by omega
  rcases this with rfl | rfl | rfl | rfl | rfl | rfl | rfl | rfl <;> decide
set_option maxHeartbeats 4000000 in
set_option maxRecDepth 100000 in
theorem classSizes_walk (c : Int) (x : Int) (w : World) (hc1 : -9223372036854775808 ≤ c) (hc2 : c ≤ 9223372036854775807) (hx1 : -9223372036854775808 ≤ x) (hx2 : x ≤ 9223372036854775807) : Calls Try.prog 7 #[.int .i64 c, .int .i64 x] w (Yes w) := by
  by_cases h : 0 ≤ c ∧ c < 8
  · obtain ⟨k, rfl⟩ := Int.eq_ofNat_of_zero_le h.1
    have hk8 : k < 8 := by omega
    have f1 : sizeR ((k : Nat) : Int) = .tuple #[.int .i64 (sz k : Nat), .int .i64 0] := if_pos h
    have f2 : slotsR ((k : Nat) : Int) = .tuple #[.int .i64 (slotsN k : Nat), .int .i64 0] := if_pos h
    have hs31 : sz k ≤ 31 := by
      obtain ⟨h1, _⟩ := sz_next k hk8
      omega
    have hm31 := slots_small k
    have hpl : ∀ x : Int, placeOk (k : Nat) x ↔ 0 ≤ x ∧ x < (slotsN k : Nat) := fun x => ⟨fun hh => by have := hh.2; simpa using this, fun hh => ⟨h, by simpa using hh⟩⟩
    have hcell := row_cell w k hk8
    have hin : ∀ x : Int, 0 ≤ x ∧ x < (slotsN k : Nat) → placeR (k : Nat) x = .tuple #[.int .i64 (2 + x * (sz k : Nat)), .int .i64 0] := fun x hx => by simpa using placeR_in ((hpl x).2 hx)
    have hout : ∀ x : Int, ¬ (0 ≤ x ∧ x < (slotsN k : Nat)) → placeR (k : Nat) x = .tuple #[.int .i64 0, .int .i64 2] := fun x hx => placeR_out (fun hh => hx ((hpl x).1 hh))
    have hinH := Lib.hid hin
    have houtH := Lib.hid hout
    clear hpl hin hout h
    generalize slotsN k = m at *
    generalize sz k = s at *
    have hwsz : w.heap.size < (w.alloc (.cells sizesCells 3)).heap.size := by simp
    have hBw := Lib.hid ((Below.refl _ w).alloc (Nat.le_refl _) (.cells sizesCells 3))
    have hcellH := Lib.hid hcell
    clear hcell
    by_cases hs : 0 ≤ x ∧ x < (m : Int)
    · have f3 := hinH.out x hs
      have d1 : decide (x < 0) = false := by simp; omega
      have d2 : decide ((m : Int) ≤ x) = false := by simp; omega
      obtain ⟨hx1, hx2⟩ := hs
      have hm0 : 0 ≤ x * (s : Int) := Int.mul_nonneg hx1 (by omega)
      have hm1 : x * (s : Int) ≤ 31 * 31 := Int.mul_le_mul (by omega) (by omega) (by omega) (by omega)
      go_enter Try.func7, Try.ntmps7
      go_wp2_with fail
      refine (refSizes_any _).mono ?_
      rintro e w' ⟨rfl, rfl⟩
      generalize hW : w.alloc (.cells sizesCells 3) = W at *
      have hWH := Lib.hid hW
      clear hW
      have HB := Lib.hid (Below.refl W.heap.size W)
      go_wp2_with fail
      refine (chain (size_any _ _) HB).mono ?_
      rintro e w' ⟨rfl, HB⟩
      rw [f1]
      go_wp2_with fail
      refine (chain (slots_any _ _) HB).mono ?_
      rintro e w' ⟨rfl, HB⟩
      rw [f2]
      go_wp2_with fail
      refine (chain (refSlots_any _ _) HB).mono ?_
      rintro e w' ⟨rfl, HB⟩
      rw [f2]
      go_wp2_with fail
      refine (chain (place_any _ _ _ (by omega) (by omega)) HB).mono ?_
      rintro e w5 ⟨rfl, HB⟩
      rw [f3]
      have hcell : w5.cell? ⟨w.heap.size, k, none⟩ = some (.int .i64 (s : Nat)) := (HB.out.cell (p := ⟨w.heap.size, k, none⟩) hwsz).trans hcellH.out
      go_wp2_with (go_at_call 14; refine (chain (awake_yes _) HB).mono ?_; rintro e w' ⟨rfl, HB⟩)
      go_ret
      exact ⟨rfl, hBw.out.trans (HB.out.mono (Nat.le_of_lt hwsz))⟩
    · have f3 := houtH.out x hs
      by_cases hl : x < 0
      · have d1 : decide (x < 0) = true := by simp; omega
        clear hs
        go_enter Try.func7, Try.ntmps7
        go_wp2_with fail
        refine (refSizes_any _).mono ?_
        rintro e w' ⟨rfl, rfl⟩
        generalize hW : w.alloc (.cells sizesCells 3) = W at *
        have hWH := Lib.hid hW
        clear hW
        have HB := Lib.hid (Below.refl W.heap.size W)
        go_wp2_with fail
        refine (chain (size_any _ _) HB).mono ?_
        rintro e w' ⟨rfl, HB⟩
        rw [f1]
        go_wp2_with fail
        refine (chain (slots_any _ _) HB).mono ?_
        rintro e w' ⟨rfl, HB⟩
        rw [f2]
        go_wp2_with fail
        refine (chain (refSlots_any _ _) HB).mono ?_
        rintro e w' ⟨rfl, HB⟩
        rw [f2]
        go_wp2_with fail
        refine (chain (place_any _ _ _ (by omega) (by omega)) HB).mono ?_
        rintro e w5 ⟨rfl, HB⟩
        rw [f3]
        have hcell : w5.cell? ⟨w.heap.size, k, none⟩ = some (.int .i64 (s : Nat)) := (HB.out.cell (p := ⟨w.heap.size, k, none⟩) hwsz).trans hcellH.out
        go_wp2_with (go_at_call 14; refine (chain (awake_yes _) HB).mono ?_; rintro e w' ⟨rfl, HB⟩)
        go_ret
        exact ⟨rfl, hBw.out.trans (HB.out.mono (Nat.le_of_lt hwsz))⟩
      · have d1 : decide (x < 0) = false := by simp; omega
        have d2 : decide ((m : Int) ≤ x) = true := by simp; omega
        clear hs
        go_enter Try.func7, Try.ntmps7
        go_wp2_with fail
        refine (refSizes_any _).mono ?_
        rintro e w' ⟨rfl, rfl⟩
        generalize hW : w.alloc (.cells sizesCells 3) = W at *
        have hWH := Lib.hid hW
        clear hW
        have HB := Lib.hid (Below.refl W.heap.size W)
        go_wp2_with fail
        refine (chain (size_any _ _) HB).mono ?_
        rintro e w' ⟨rfl, HB⟩
        rw [f1]
        go_wp2_with fail
        refine (chain (slots_any _ _) HB).mono ?_
        rintro e w' ⟨rfl, HB⟩
        rw [f2]
        go_wp2_with fail
        refine (chain (refSlots_any _ _) HB).mono ?_
        rintro e w' ⟨rfl, HB⟩
        rw [f2]
        go_wp2_with fail
        refine (chain (place_any _ _ _ (by omega) (by omega)) HB).mono ?_
        rintro e w5 ⟨rfl, HB⟩
        rw [f3]
        have hcell : w5.cell? ⟨w.heap.size, k, none⟩ = some (.int .i64 (s : Nat)) := (HB.out.cell (p := ⟨w.heap.size, k, none⟩) hwsz).trans hcellH.out
        go_wp2_with (go_at_call 14; refine (chain (awake_yes _) HB).mono ?_; rintro e w' ⟨rfl, HB⟩)
        go_ret
        exact ⟨rfl, hBw.out.trans (HB.out.mono (Nat.le_of_lt hwsz))⟩
  · have f1 := sizeR_out h
    have f2 := slotsR_out h
    have f3 : placeR c x = .tuple #[.int .i64 0, .int .i64 2] := placeR_out (fun hh => h hh.1)
    clear h
    go_enter Try.func7, Try.ntmps7
    go_wp2_with fail
    refine (refSizes_any _).mono ?_
    rintro e w' ⟨rfl, rfl⟩
    have HB := Lib.hid ((Below.refl _ w).alloc (Nat.le_refl _) (.cells sizesCells 3))
    go_wp2_with (first | (go_at_call 10; refine (chain (of_any _ _) HB).mono ?_; rintro e w' ⟨rfl, HB⟩; try simp only [f1, f2, f3]) | (go_at_call 11; refine (chain (refOf_any _ _) HB).mono ?_; rintro e w' ⟨rfl, HB⟩; try simp only [f1, f2, f3]) | (go_at_call 12; refine (chain (pages_any _ _) HB).mono ?_; rintro e w' ⟨rfl, HB⟩; try simp only [f1, f2, f3]) | (go_at_call 13; refine (chain (refPages_any _ _) HB).mono ?_; rintro e w' ⟨rfl, HB⟩; try simp only [f1, f2, f3]) | (go_at_call 15; refine (chain (size_any _ _) HB).mono ?_; rintro e w' ⟨rfl, HB⟩; try simp only [f1, f2, f3]) | (go_at_call 18; refine (chain (slots_any _ _) HB).mono ?_; rintro e w' ⟨rfl, HB⟩; try simp only [f1, f2, f3]) | (go_at_call 19; refine (chain (refSlots_any _ _) HB).mono ?_; rintro e w' ⟨rfl, HB⟩; try simp only [f1, f2, f3]) | (go_at_call 20; refine (chain (place_any _ _ _ (by omega) (by omega)) HB).mono ?_; rintro e w' ⟨rfl, HB⟩; try simp only [f1, f2, f3]) | (go_at_call 16; refine (chain (classes_any _) HB).mono ?_; rintro e w' ⟨rfl, HB⟩) | (go_at_call 14; refine (chain (awake_yes _) HB).mono ?_; rintro e w' ⟨rfl, HB⟩))
    go_ret
    exact ⟨rfl, HB.out⟩
set_option maxHeartbeats 4000000 in
set_option maxRecDepth 100000 in
theorem classRow_walk (c : Int) (w : World) (hc1 : -9223372036854775808 ≤ c) (hc2 : c ≤ 9223372036854775807) : Calls Try.prog 9 #[.int .i64 c] w (Yes w) := by
  by_cases h : 0 ≤ c ∧ c < 8
  · obtain ⟨k, rfl⟩ := Int.eq_ofNat_of_zero_le h.1
    have hk8 : k < 8 := by omega
    have f1 : sizeR ((k : Nat) : Int) = .tuple #[.int .i64 (sz k : Nat), .int .i64 0] := if_pos h
    have f2 : slotsR ((k : Nat) : Int) = .tuple #[.int .i64 (slotsN k : Nat), .int .i64 0] := if_pos h
    have hs31 : sz k ≤ 31 := by
      obtain ⟨h1, _⟩ := sz_next k hk8
      omega
    have hm31 := slots_small k
    have hpl : ∀ x : Int, placeOk (k : Nat) x ↔ 0 ≤ x ∧ x < (slotsN k : Nat) := fun x => ⟨fun hh => by have := hh.2; simpa using this, fun hh => ⟨h, by simpa using hh⟩⟩
    have hin : ∀ x : Int, 0 ≤ x ∧ x < (slotsN k : Nat) → placeR (k : Nat) x = .tuple #[.int .i64 (2 + x * (sz k : Nat)), .int .i64 0] := fun x hx => by simpa using placeR_in ((hpl x).2 hx)
    have f3 : placeR (k : Nat) (slotsN k : Nat) = .tuple #[.int .i64 0, .int .i64 2] := placeR_out (fun hh => by have := (hpl _).1 hh; omega)
    have hms := (slotsN_le k hk8).1
    have hinH := Lib.hid hin
    clear hpl hin h
    generalize slotsN k = m at *
    generalize sz k = s at *
    go_enter Try.func9, Try.ntmps9
    have HB := Lib.hid (Below.refl w.heap.size w)
    go_wp2_with fail
    refine (chain (size_any _ _) HB).mono ?_
    rintro e w1 ⟨rfl, HB⟩
    rw [f1]
    go_wp2_with fail
    refine (chain (slots_any _ _) HB).mono ?_
    rintro e w2 ⟨rfl, HB⟩
    rw [f2]
    go_wp2_with fail
    go_loopw [7, 8] (fun p i wr => ∃ j : Nat, j ≤ m ∧ i = .int .i64 j ∧ p = .int .i64 (2 + (j : Int) * (s : Int)) ∧ Hid (Below w.heap.size w wr)) (fun _ i _ => m - (intOf i).toNat)
    case atStart => exact ⟨0, by omega, rfl, by simp, HB⟩
    case round =>
      obtain ⟨j, hj, rfl, rfl, HB⟩ := hrel
      by_cases hlt : j < m
      · have f4 := hinH.out (j : Nat) ⟨by omega, by omega⟩
        have hm0 : 0 ≤ (j : Int) * (s : Int) := Int.mul_nonneg (by omega) (by omega)
        have hm1 : (j : Int) * (s : Int) ≤ 31 * 31 := Int.mul_le_mul (by omega) (by omega) (by omega) (by omega)
        go_wp2_with fail
        refine (chain (place_any _ _ _ (by omega) (by omega)) HB).mono ?_
        rintro e w3 ⟨rfl, HB⟩
        rw [f4]
        go_wp2
        go_roundw
        case rel => exact ⟨j + 1, by omega, by go_num, by rw [show (2 : Int) + (j : Int) * (s : Int) + (s : Int) = 2 + ((j + 1 : Nat) : Int) * (s : Int) by rw [Int.natCast_add, Int.add_mul]; omega], HB⟩
        case measure => simp [intOf]; omega
      · obtain rfl : j = m := by omega
        have hm0 : 0 ≤ (j : Int) * (s : Int) := Int.mul_nonneg (by omega) (by omega)
        have hm1 : (j : Int) * (s : Int) ≤ 62 := by exact_mod_cast hms
        have d3 : decide (2 + (j : Int) * (s : Int) ≤ 64) = true := by simp; omega
        go_wp2_with fail
        refine (chain (place_any _ _ _ (by omega) (by omega)) HB).mono ?_
        rintro e w3 ⟨rfl, HB⟩
        rw [f3]
        go_wp2_with (go_at_call 14; refine (chain (awake_yes _) HB).mono ?_; rintro e w' ⟨rfl, HB⟩)
        go_ret
        exact ⟨rfl, HB.out⟩
  · have f1 := sizeR_out h
    have f2 := slotsR_out h
    clear h
    go_enter Try.func9, Try.ntmps9
    have HB := Lib.hid (Below.refl w.heap.size w)
    go_wp2_with (first | (go_at_call 10; refine (chain (of_any _ _) HB).mono ?_; rintro e w' ⟨rfl, HB⟩; try simp only [f1, f2]) | (go_at_call 11; refine (chain (refOf_any _ _) HB).mono ?_; rintro e w' ⟨rfl, HB⟩; try simp only [f1, f2]) | (go_at_call 12; refine (chain (pages_any _ _) HB).mono ?_; rintro e w' ⟨rfl, HB⟩; try simp only [f1, f2]) | (go_at_call 13; refine (chain (refPages_any _ _) HB).mono ?_; rintro e w' ⟨rfl, HB⟩; try simp only [f1, f2]) | (go_at_call 15; refine (chain (size_any _ _) HB).mono ?_; rintro e w' ⟨rfl, HB⟩; try simp only [f1, f2]) | (go_at_call 18; refine (chain (slots_any _ _) HB).mono ?_; rintro e w' ⟨rfl, HB⟩; try simp only [f1, f2]) | (go_at_call 19; refine (chain (refSlots_any _ _) HB).mono ?_; rintro e w' ⟨rfl, HB⟩; try simp only [f1, f2]) | (go_at_call 20; refine (chain (place_any _ _ _ (by omega) (by omega)) HB).mono ?_; rintro e w' ⟨rfl, HB⟩; try simp only [f1, f2]) | (go_at_call 16; refine (chain (classes_any _) HB).mono ?_; rintro e w' ⟨rfl, HB⟩) | (go_at_call 14; refine (chain (awake_yes _) HB).mono ?_; rintro e w' ⟨rfl, HB⟩))
    all_goals (go_ret; exact ⟨rfl, HB.out⟩)
end Go.Proofs.Ytokbglpmkekdnaa

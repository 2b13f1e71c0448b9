/- The walks of the seven statements of layer 3. -/
import Derived.Test.YtokbglpmkekdnaaClass3
set_option linter.unusedVariables false
set_option linter.unusedSimpArgs false
namespace Go.Proofs.Ytokbglpmkekdnaa
open Go.RowKit Go.Shelf
theorem placeR_in {c k : Int} (h : placeOk c k) : placeR c k = .tuple #[.int .i64 (2 + k * (sz c.toNat : Nat)), .int .i64 0] := if_pos h
theorem placeR_out {c k : Int} (h : ¬ placeOk c k) : placeR c k = .tuple #[.int .i64 0, .int .i64 2] := if_neg h
set_option maxHeartbeats 4000000 in
set_option maxRecDepth 100000 in
theorem classApart_walk (c : Int) (a : Int) (b : Int) (w : World) (hc1 : -9223372036854775808 ≤ c) (hc2 : c ≤ 9223372036854775807) (ha1 : -9223372036854775808 ≤ a) (ha2 : a ≤ 9223372036854775807) (hb1 : -9223372036854775808 ≤ b) (hb2 : b ≤ 9223372036854775807) : Calls Try.prog 8 #[.int .i64 c, .int .i64 a, .int .i64 b] w (Yes w) := by
  by_cases h : 0 ≤ c ∧ c < 8
  · rcases class_cases h with rfl | rfl | rfl | rfl | rfl | rfl | rfl | rfl
    · have f1 : sizeR 0 = .tuple #[.int .i64 2, .int .i64 0] := rfl
      have f2 : slotsR 0 = .tuple #[.int .i64 31, .int .i64 0] := rfl
      clear h hc1 hc2
      by_cases hA : 0 ≤ a ∧ a < 31
      · by_cases hB : 0 ≤ b ∧ b < 31
        · have f3 : placeR 0 a = .tuple #[.int .i64 (2 + a * 2), .int .i64 0] := placeR_in ⟨by omega, hA.1, hA.2⟩
          have f4 : placeR 0 b = .tuple #[.int .i64 (2 + b * 2), .int .i64 0] := placeR_in ⟨by omega, hB.1, hB.2⟩
          obtain ⟨hA1, hA2⟩ := hA
          obtain ⟨hB1, hB2⟩ := hB
          have e1 : ((a == b) == (2 + a * 2 == 2 + b * 2)) = true := by
            by_cases hab : a = b
            · subst hab; simp
            · have x1 : (a == b) = false := by simp [hab]
              have x2 : (2 + a * 2 == 2 + b * 2) = false := by simp; omega
              rw [x1, x2]; rfl
          have d1 : decide (2 + a * 2 < 2) = false := by simp; omega
          have d2 : decide (64 < 2 + a * 2 + 2) = false := by simp; omega
          by_cases hab : b ≤ a
          · have d3 : decide (b ≤ a) = true := by simp; omega
            by_cases hba : a ≤ b
            · have d4 : decide (a ≤ b) = true := by simp; omega
              go_enter Try.func8, Try.ntmps8
              have HB := Lib.hid (Below.refl w.heap.size w)
              go_wp2_with (first | (go_at_call 10; refine (chain (of_any _ _) HB).mono ?_; rintro e w' ⟨rfl, HB⟩; try simp only [f1, f2, f3, f4]) | (go_at_call 11; refine (chain (refOf_any _ _) HB).mono ?_; rintro e w' ⟨rfl, HB⟩; try simp only [f1, f2, f3, f4]) | (go_at_call 12; refine (chain (pages_any _ _) HB).mono ?_; rintro e w' ⟨rfl, HB⟩; try simp only [f1, f2, f3, f4]) | (go_at_call 13; refine (chain (refPages_any _ _) HB).mono ?_; rintro e w' ⟨rfl, HB⟩; try simp only [f1, f2, f3, f4]) | (go_at_call 15; refine (chain (size_any _ _) HB).mono ?_; rintro e w' ⟨rfl, HB⟩; try simp only [f1, f2, f3, f4]) | (go_at_call 18; refine (chain (slots_any _ _) HB).mono ?_; rintro e w' ⟨rfl, HB⟩; try simp only [f1, f2, f3, f4]) | (go_at_call 19; refine (chain (refSlots_any _ _) HB).mono ?_; rintro e w' ⟨rfl, HB⟩; try simp only [f1, f2, f3, f4]) | (go_at_call 20; refine (chain (place_any _ _ _ (by omega) (by omega)) HB).mono ?_; rintro e w' ⟨rfl, HB⟩; try simp only [f1, f2, f3, f4]) | (go_at_call 16; refine (chain (classes_any _) HB).mono ?_; rintro e w' ⟨rfl, HB⟩) | (go_at_call 14; refine (chain (awake_yes _) HB).mono ?_; rintro e w' ⟨rfl, HB⟩))
              all_goals (go_ret; exact ⟨rfl, HB.out⟩)
            · have d4 : decide (a ≤ b) = false := by simp; omega
              have d5 : decide (2 + b * 2 + 2 ≤ 2 + a * 2) = true := by simp; omega
              go_enter Try.func8, Try.ntmps8
              have HB := Lib.hid (Below.refl w.heap.size w)
              go_wp2_with (first | (go_at_call 10; refine (chain (of_any _ _) HB).mono ?_; rintro e w' ⟨rfl, HB⟩; try simp only [f1, f2, f3, f4]) | (go_at_call 11; refine (chain (refOf_any _ _) HB).mono ?_; rintro e w' ⟨rfl, HB⟩; try simp only [f1, f2, f3, f4]) | (go_at_call 12; refine (chain (pages_any _ _) HB).mono ?_; rintro e w' ⟨rfl, HB⟩; try simp only [f1, f2, f3, f4]) | (go_at_call 13; refine (chain (refPages_any _ _) HB).mono ?_; rintro e w' ⟨rfl, HB⟩; try simp only [f1, f2, f3, f4]) | (go_at_call 15; refine (chain (size_any _ _) HB).mono ?_; rintro e w' ⟨rfl, HB⟩; try simp only [f1, f2, f3, f4]) | (go_at_call 18; refine (chain (slots_any _ _) HB).mono ?_; rintro e w' ⟨rfl, HB⟩; try simp only [f1, f2, f3, f4]) | (go_at_call 19; refine (chain (refSlots_any _ _) HB).mono ?_; rintro e w' ⟨rfl, HB⟩; try simp only [f1, f2, f3, f4]) | (go_at_call 20; refine (chain (place_any _ _ _ (by omega) (by omega)) HB).mono ?_; rintro e w' ⟨rfl, HB⟩; try simp only [f1, f2, f3, f4]) | (go_at_call 16; refine (chain (classes_any _) HB).mono ?_; rintro e w' ⟨rfl, HB⟩) | (go_at_call 14; refine (chain (awake_yes _) HB).mono ?_; rintro e w' ⟨rfl, HB⟩))
              all_goals (go_ret; exact ⟨rfl, HB.out⟩)
          · have d3 : decide (b ≤ a) = false := by simp; omega
            have d4 : decide (a ≤ b) = true := by simp; omega
            have d5 : decide (2 + a * 2 + 2 ≤ 2 + b * 2) = true := by simp; omega
            go_enter Try.func8, Try.ntmps8
            have HB := Lib.hid (Below.refl w.heap.size w)
            go_wp2_with (first | (go_at_call 10; refine (chain (of_any _ _) HB).mono ?_; rintro e w' ⟨rfl, HB⟩; try simp only [f1, f2, f3, f4]) | (go_at_call 11; refine (chain (refOf_any _ _) HB).mono ?_; rintro e w' ⟨rfl, HB⟩; try simp only [f1, f2, f3, f4]) | (go_at_call 12; refine (chain (pages_any _ _) HB).mono ?_; rintro e w' ⟨rfl, HB⟩; try simp only [f1, f2, f3, f4]) | (go_at_call 13; refine (chain (refPages_any _ _) HB).mono ?_; rintro e w' ⟨rfl, HB⟩; try simp only [f1, f2, f3, f4]) | (go_at_call 15; refine (chain (size_any _ _) HB).mono ?_; rintro e w' ⟨rfl, HB⟩; try simp only [f1, f2, f3, f4]) | (go_at_call 18; refine (chain (slots_any _ _) HB).mono ?_; rintro e w' ⟨rfl, HB⟩; try simp only [f1, f2, f3, f4]) | (go_at_call 19; refine (chain (refSlots_any _ _) HB).mono ?_; rintro e w' ⟨rfl, HB⟩; try simp only [f1, f2, f3, f4]) | (go_at_call 20; refine (chain (place_any _ _ _ (by omega) (by omega)) HB).mono ?_; rintro e w' ⟨rfl, HB⟩; try simp only [f1, f2, f3, f4]) | (go_at_call 16; refine (chain (classes_any _) HB).mono ?_; rintro e w' ⟨rfl, HB⟩) | (go_at_call 14; refine (chain (awake_yes _) HB).mono ?_; rintro e w' ⟨rfl, HB⟩))
            all_goals (go_ret; exact ⟨rfl, HB.out⟩)
        · have f3 : placeR 0 a = .tuple #[.int .i64 (2 + a * 2), .int .i64 0] := placeR_in ⟨by omega, hA.1, hA.2⟩
          have f4 : placeR 0 b = .tuple #[.int .i64 0, .int .i64 2] := placeR_out (fun hh => hB hh.2)
          obtain ⟨hA1, hA2⟩ := hA
          clear hB
          go_enter Try.func8, Try.ntmps8
          have HB := Lib.hid (Below.refl w.heap.size w)
          go_wp2_with (first | (go_at_call 10; refine (chain (of_any _ _) HB).mono ?_; rintro e w' ⟨rfl, HB⟩; try simp only [f1, f2, f3, f4]) | (go_at_call 11; refine (chain (refOf_any _ _) HB).mono ?_; rintro e w' ⟨rfl, HB⟩; try simp only [f1, f2, f3, f4]) | (go_at_call 12; refine (chain (pages_any _ _) HB).mono ?_; rintro e w' ⟨rfl, HB⟩; try simp only [f1, f2, f3, f4]) | (go_at_call 13; refine (chain (refPages_any _ _) HB).mono ?_; rintro e w' ⟨rfl, HB⟩; try simp only [f1, f2, f3, f4]) | (go_at_call 15; refine (chain (size_any _ _) HB).mono ?_; rintro e w' ⟨rfl, HB⟩; try simp only [f1, f2, f3, f4]) | (go_at_call 18; refine (chain (slots_any _ _) HB).mono ?_; rintro e w' ⟨rfl, HB⟩; try simp only [f1, f2, f3, f4]) | (go_at_call 19; refine (chain (refSlots_any _ _) HB).mono ?_; rintro e w' ⟨rfl, HB⟩; try simp only [f1, f2, f3, f4]) | (go_at_call 20; refine (chain (place_any _ _ _ (by omega) (by omega)) HB).mono ?_; rintro e w' ⟨rfl, HB⟩; try simp only [f1, f2, f3, f4]) | (go_at_call 16; refine (chain (classes_any _) HB).mono ?_; rintro e w' ⟨rfl, HB⟩) | (go_at_call 14; refine (chain (awake_yes _) HB).mono ?_; rintro e w' ⟨rfl, HB⟩))
          all_goals (go_ret; exact ⟨rfl, HB.out⟩)
      · have f3 : placeR 0 a = .tuple #[.int .i64 0, .int .i64 2] := placeR_out (fun hh => hA hh.2)
        have f4 : ∃ q g, placeR 0 b = .tuple #[.int .i64 q, .int .i64 (g : Nat)] := by unfold placeR; split; exact ⟨_, 0, rfl⟩; exact ⟨_, 2, rfl⟩
        obtain ⟨q, g, f4⟩ := f4
        clear hA
        go_enter Try.func8, Try.ntmps8
        have HB := Lib.hid (Below.refl w.heap.size w)
        go_wp2_with (first | (go_at_call 10; refine (chain (of_any _ _) HB).mono ?_; rintro e w' ⟨rfl, HB⟩; try simp only [f1, f2, f3, f4]) | (go_at_call 11; refine (chain (refOf_any _ _) HB).mono ?_; rintro e w' ⟨rfl, HB⟩; try simp only [f1, f2, f3, f4]) | (go_at_call 12; refine (chain (pages_any _ _) HB).mono ?_; rintro e w' ⟨rfl, HB⟩; try simp only [f1, f2, f3, f4]) | (go_at_call 13; refine (chain (refPages_any _ _) HB).mono ?_; rintro e w' ⟨rfl, HB⟩; try simp only [f1, f2, f3, f4]) | (go_at_call 15; refine (chain (size_any _ _) HB).mono ?_; rintro e w' ⟨rfl, HB⟩; try simp only [f1, f2, f3, f4]) | (go_at_call 18; refine (chain (slots_any _ _) HB).mono ?_; rintro e w' ⟨rfl, HB⟩; try simp only [f1, f2, f3, f4]) | (go_at_call 19; refine (chain (refSlots_any _ _) HB).mono ?_; rintro e w' ⟨rfl, HB⟩; try simp only [f1, f2, f3, f4]) | (go_at_call 20; refine (chain (place_any _ _ _ (by omega) (by omega)) HB).mono ?_; rintro e w' ⟨rfl, HB⟩; try simp only [f1, f2, f3, f4]) | (go_at_call 16; refine (chain (classes_any _) HB).mono ?_; rintro e w' ⟨rfl, HB⟩) | (go_at_call 14; refine (chain (awake_yes _) HB).mono ?_; rintro e w' ⟨rfl, HB⟩))
        all_goals (go_ret; exact ⟨rfl, HB.out⟩)
    · have f1 : sizeR 1 = .tuple #[.int .i64 3, .int .i64 0] := rfl
      have f2 : slotsR 1 = .tuple #[.int .i64 20, .int .i64 0] := rfl
      clear h hc1 hc2
      by_cases hA : 0 ≤ a ∧ a < 20
      · by_cases hB : 0 ≤ b ∧ b < 20
        · have f3 : placeR 1 a = .tuple #[.int .i64 (2 + a * 3), .int .i64 0] := placeR_in ⟨by omega, hA.1, hA.2⟩
          have f4 : placeR 1 b = .tuple #[.int .i64 (2 + b * 3), .int .i64 0] := placeR_in ⟨by omega, hB.1, hB.2⟩
          obtain ⟨hA1, hA2⟩ := hA
          obtain ⟨hB1, hB2⟩ := hB
          have e1 : ((a == b) == (2 + a * 3 == 2 + b * 3)) = true := by
            by_cases hab : a = b
            · subst hab; simp
            · have x1 : (a == b) = false := by simp [hab]
              have x2 : (2 + a * 3 == 2 + b * 3) = false := by simp; omega
              rw [x1, x2]; rfl
          have d1 : decide (2 + a * 3 < 2) = false := by simp; omega
          have d2 : decide (64 < 2 + a * 3 + 3) = false := by simp; omega
          by_cases hab : b ≤ a
          · have d3 : decide (b ≤ a) = true := by simp; omega
            by_cases hba : a ≤ b
            · have d4 : decide (a ≤ b) = true := by simp; omega
              go_enter Try.func8, Try.ntmps8
              have HB := Lib.hid (Below.refl w.heap.size w)
              go_wp2_with (first | (go_at_call 10; refine (chain (of_any _ _) HB).mono ?_; rintro e w' ⟨rfl, HB⟩; try simp only [f1, f2, f3, f4]) | (go_at_call 11; refine (chain (refOf_any _ _) HB).mono ?_; rintro e w' ⟨rfl, HB⟩; try simp only [f1, f2, f3, f4]) | (go_at_call 12; refine (chain (pages_any _ _) HB).mono ?_; rintro e w' ⟨rfl, HB⟩; try simp only [f1, f2, f3, f4]) | (go_at_call 13; refine (chain (refPages_any _ _) HB).mono ?_; rintro e w' ⟨rfl, HB⟩; try simp only [f1, f2, f3, f4]) | (go_at_call 15; refine (chain (size_any _ _) HB).mono ?_; rintro e w' ⟨rfl, HB⟩; try simp only [f1, f2, f3, f4]) | (go_at_call 18; refine (chain (slots_any _ _) HB).mono ?_; rintro e w' ⟨rfl, HB⟩; try simp only [f1, f2, f3, f4]) | (go_at_call 19; refine (chain (refSlots_any _ _) HB).mono ?_; rintro e w' ⟨rfl, HB⟩; try simp only [f1, f2, f3, f4]) | (go_at_call 20; refine (chain (place_any _ _ _ (by omega) (by omega)) HB).mono ?_; rintro e w' ⟨rfl, HB⟩; try simp only [f1, f2, f3, f4]) | (go_at_call 16; refine (chain (classes_any _) HB).mono ?_; rintro e w' ⟨rfl, HB⟩) | (go_at_call 14; refine (chain (awake_yes _) HB).mono ?_; rintro e w' ⟨rfl, HB⟩))
              all_goals (go_ret; exact ⟨rfl, HB.out⟩)
            · have d4 : decide (a ≤ b) = false := by simp; omega
              have d5 : decide (2 + b * 3 + 3 ≤ 2 + a * 3) = true := by simp; omega
              go_enter Try.func8, Try.ntmps8
              have HB := Lib.hid (Below.refl w.heap.size w)
              go_wp2_with (first | (go_at_call 10; refine (chain (of_any _ _) HB).mono ?_; rintro e w' ⟨rfl, HB⟩; try simp only [f1, f2, f3, f4]) | (go_at_call 11; refine (chain (refOf_any _ _) HB).mono ?_; rintro e w' ⟨rfl, HB⟩; try simp only [f1, f2, f3, f4]) | (go_at_call 12; refine (chain (pages_any _ _) HB).mono ?_; rintro e w' ⟨rfl, HB⟩; try simp only [f1, f2, f3, f4]) | (go_at_call 13; refine (chain (refPages_any _ _) HB).mono ?_; rintro e w' ⟨rfl, HB⟩; try simp only [f1, f2, f3, f4]) | (go_at_call 15; refine (chain (size_any _ _) HB).mono ?_; rintro e w' ⟨rfl, HB⟩; try simp only [f1, f2, f3, f4]) | (go_at_call 18; refine (chain (slots_any _ _) HB).mono ?_; rintro e w' ⟨rfl, HB⟩; try simp only [f1, f2, f3, f4]) | (go_at_call 19; refine (chain (refSlots_any _ _) HB).mono ?_; rintro e w' ⟨rfl, HB⟩; try simp only [f1, f2, f3, f4]) | (go_at_call 20; refine (chain (place_any _ _ _ (by omega) (by omega)) HB).mono ?_; rintro e w' ⟨rfl, HB⟩; try simp only [f1, f2, f3, f4]) | (go_at_call 16; refine (chain (classes_any _) HB).mono ?_; rintro e w' ⟨rfl, HB⟩) | (go_at_call 14; refine (chain (awake_yes _) HB).mono ?_; rintro e w' ⟨rfl, HB⟩))
              all_goals (go_ret; exact ⟨rfl, HB.out⟩)
          · have d3 : decide (b ≤ a) = false := by simp; omega
            have d4 : decide (a ≤ b) = true := by simp; omega
            have d5 : decide (2 + a * 3 + 3 ≤ 2 + b * 3) = true := by simp; omega
            go_enter Try.func8, Try.ntmps8
            have HB := Lib.hid (Below.refl w.heap.size w)
            go_wp2_with (first | (go_at_call 10; refine (chain (of_any _ _) HB).mono ?_; rintro e w' ⟨rfl, HB⟩; try simp only [f1, f2, f3, f4]) | (go_at_call 11; refine (chain (refOf_any _ _) HB).mono ?_; rintro e w' ⟨rfl, HB⟩; try simp only [f1, f2, f3, f4]) | (go_at_call 12; refine (chain (pages_any _ _) HB).mono ?_; rintro e w' ⟨rfl, HB⟩; try simp only [f1, f2, f3, f4]) | (go_at_call 13; refine (chain (refPages_any _ _) HB).mono ?_; rintro e w' ⟨rfl, HB⟩; try simp only [f1, f2, f3, f4]) | (go_at_call 15; refine (chain (size_any _ _) HB).mono ?_; rintro e w' ⟨rfl, HB⟩; try simp only [f1, f2, f3, f4]) | (go_at_call 18; refine (chain (slots_any _ _) HB).mono ?_; rintro e w' ⟨rfl, HB⟩; try simp only [f1, f2, f3, f4]) | (go_at_call 19; refine (chain (refSlots_any _ _) HB).mono ?_; rintro e w' ⟨rfl, HB⟩; try simp only [f1, f2, f3, f4]) | (go_at_call 20; refine (chain (place_any _ _ _ (by omega) (by omega)) HB).mono ?_; rintro e w' ⟨rfl, HB⟩; try simp only [f1, f2, f3, f4]) | (go_at_call 16; refine (chain (classes_any _) HB).mono ?_; rintro e w' ⟨rfl, HB⟩) | (go_at_call 14; refine (chain (awake_yes _) HB).mono ?_; rintro e w' ⟨rfl, HB⟩))
            all_goals (go_ret; exact ⟨rfl, HB.out⟩)
        · have f3 : placeR 1 a = .tuple #[.int .i64 (2 + a * 3), .int .i64 0] := placeR_in ⟨by omega, hA.1, hA.2⟩
          have f4 : placeR 1 b = .tuple #[.int .i64 0, .int .i64 2] := placeR_out (fun hh => hB hh.2)
          obtain ⟨hA1, hA2⟩ := hA
          clear hB
          go_enter Try.func8, Try.ntmps8
          have HB := Lib.hid (Below.refl w.heap.size w)
          go_wp2_with (first | (go_at_call 10; refine (chain (of_any _ _) HB).mono ?_; rintro e w' ⟨rfl, HB⟩; try simp only [f1, f2, f3, f4]) | (go_at_call 11; refine (chain (refOf_any _ _) HB).mono ?_; rintro e w' ⟨rfl, HB⟩; try simp only [f1, f2, f3, f4]) | (go_at_call 12; refine (chain (pages_any _ _) HB).mono ?_; rintro e w' ⟨rfl, HB⟩; try simp only [f1, f2, f3, f4]) | (go_at_call 13; refine (chain (refPages_any _ _) HB).mono ?_; rintro e w' ⟨rfl, HB⟩; try simp only [f1, f2, f3, f4]) | (go_at_call 15; refine (chain (size_any _ _) HB).mono ?_; rintro e w' ⟨rfl, HB⟩; try simp only [f1, f2, f3, f4]) | (go_at_call 18; refine (chain (slots_any _ _) HB).mono ?_; rintro e w' ⟨rfl, HB⟩; try simp only [f1, f2, f3, f4]) | (go_at_call 19; refine (chain (refSlots_any _ _) HB).mono ?_; rintro e w' ⟨rfl, HB⟩; try simp only [f1, f2, f3, f4]) | (go_at_call 20; refine (chain (place_any _ _ _ (by omega) (by omega)) HB).mono ?_; rintro e w' ⟨rfl, HB⟩; try simp only [f1, f2, f3, f4]) | (go_at_call 16; refine (chain (classes_any _) HB).mono ?_; rintro e w' ⟨rfl, HB⟩) | (go_at_call 14; refine (chain (awake_yes _) HB).mono ?_; rintro e w' ⟨rfl, HB⟩))
          all_goals (go_ret; exact ⟨rfl, HB.out⟩)
      · have f3 : placeR 1 a = .tuple #[.int .i64 0, .int .i64 2] := placeR_out (fun hh => hA hh.2)
        have f4 : ∃ q g, placeR 1 b = .tuple #[.int .i64 q, .int .i64 (g : Nat)] := by unfold placeR; split; exact ⟨_, 0, rfl⟩; exact ⟨_, 2, rfl⟩
        obtain ⟨q, g, f4⟩ := f4
        clear hA
        go_enter Try.func8, Try.ntmps8
        have HB := Lib.hid (Below.refl w.heap.size w)
        go_wp2_with (first | (go_at_call 10; refine (chain (of_any _ _) HB).mono ?_; rintro e w' ⟨rfl, HB⟩; try simp only [f1, f2, f3, f4]) | (go_at_call 11; refine (chain (refOf_any _ _) HB).mono ?_; rintro e w' ⟨rfl, HB⟩; try simp only [f1, f2, f3, f4]) | (go_at_call 12; refine (chain (pages_any _ _) HB).mono ?_; rintro e w' ⟨rfl, HB⟩; try simp only [f1, f2, f3, f4]) | (go_at_call 13; refine (chain (refPages_any _ _) HB).mono ?_; rintro e w' ⟨rfl, HB⟩; try simp only [f1, f2, f3, f4]) | (go_at_call 15; refine (chain (size_any _ _) HB).mono ?_; rintro e w' ⟨rfl, HB⟩; try simp only [f1, f2, f3, f4]) | (go_at_call 18; refine (chain (slots_any _ _) HB).mono ?_; rintro e w' ⟨rfl, HB⟩; try simp only [f1, f2, f3, f4]) | (go_at_call 19; refine (chain (refSlots_any _ _) HB).mono ?_; rintro e w' ⟨rfl, HB⟩; try simp only [f1, f2, f3, f4]) | (go_at_call 20; refine (chain (place_any _ _ _ (by omega) (by omega)) HB).mono ?_; rintro e w' ⟨rfl, HB⟩; try simp only [f1, f2, f3, f4]) | (go_at_call 16; refine (chain (classes_any _) HB).mono ?_; rintro e w' ⟨rfl, HB⟩) | (go_at_call 14; refine (chain (awake_yes _) HB).mono ?_; rintro e w' ⟨rfl, HB⟩))
        all_goals (go_ret; exact ⟨rfl, HB.out⟩)
    · have f1 : sizeR 2 = .tuple #[.int .i64 4, .int .i64 0] := rfl
      have f2 : slotsR 2 = .tuple #[.int .i64 15, .int .i64 0] := rfl
      clear h hc1 hc2
      by_cases hA : 0 ≤ a ∧ a < 15
      · by_cases hB : 0 ≤ b ∧ b < 15
        · have f3 : placeR 2 a = .tuple #[.int .i64 (2 + a * 4), .int .i64 0] := placeR_in ⟨by omega, hA.1, hA.2⟩
          have f4 : placeR 2 b = .tuple #[.int .i64 (2 + b * 4), .int .i64 0] := placeR_in ⟨by omega, hB.1, hB.2⟩
          obtain ⟨hA1, hA2⟩ := hA
          obtain ⟨hB1, hB2⟩ := hB
          have e1 : ((a == b) == (2 + a * 4 == 2 + b * 4)) = true := by
            by_cases hab : a = b
            · subst hab; simp
            · have x1 : (a == b) = false := by simp [hab]
              have x2 : (2 + a * 4 == 2 + b * 4) = false := by simp; omega
              rw [x1, x2]; rfl
          have d1 : decide (2 + a * 4 < 2) = false := by simp; omega
          have d2 : decide (64 < 2 + a * 4 + 4) = false := by simp; omega
          by_cases hab : b ≤ a
          · have d3 : decide (b ≤ a) = true := by simp; omega
            by_cases hba : a ≤ b
            · have d4 : decide (a ≤ b) = true := by simp; omega
              go_enter Try.func8, Try.ntmps8
              have HB := Lib.hid (Below.refl w.heap.size w)
              go_wp2_with (first | (go_at_call 10; refine (chain (of_any _ _) HB).mono ?_; rintro e w' ⟨rfl, HB⟩; try simp only [f1, f2, f3, f4]) | (go_at_call 11; refine (chain (refOf_any _ _) HB).mono ?_; rintro e w' ⟨rfl, HB⟩; try simp only [f1, f2, f3, f4]) | (go_at_call 12; refine (chain (pages_any _ _) HB).mono ?_; rintro e w' ⟨rfl, HB⟩; try simp only [f1, f2, f3, f4]) | (go_at_call 13; refine (chain (refPages_any _ _) HB).mono ?_; rintro e w' ⟨rfl, HB⟩; try simp only [f1, f2, f3, f4]) | (go_at_call 15; refine (chain (size_any _ _) HB).mono ?_; rintro e w' ⟨rfl, HB⟩; try simp only [f1, f2, f3, f4]) | (go_at_call 18; refine (chain (slots_any _ _) HB).mono ?_; rintro e w' ⟨rfl, HB⟩; try simp only [f1, f2, f3, f4]) | (go_at_call 19; refine (chain (refSlots_any _ _) HB).mono ?_; rintro e w' ⟨rfl, HB⟩; try simp only [f1, f2, f3, f4]) | (go_at_call 20; refine (chain (place_any _ _ _ (by omega) (by omega)) HB).mono ?_; rintro e w' ⟨rfl, HB⟩; try simp only [f1, f2, f3, f4]) | (go_at_call 16; refine (chain (classes_any _) HB).mono ?_; rintro e w' ⟨rfl, HB⟩) | (go_at_call 14; refine (chain (awake_yes _) HB).mono ?_; rintro e w' ⟨rfl, HB⟩))
              all_goals (go_ret; exact ⟨rfl, HB.out⟩)
            · have d4 : decide (a ≤ b) = false := by simp; omega
              have d5 : decide (2 + b * 4 + 4 ≤ 2 + a * 4) = true := by simp; omega
              go_enter Try.func8, Try.ntmps8
              have HB := Lib.hid (Below.refl w.heap.size w)
              go_wp2_with (first | (go_at_call 10; refine (chain (of_any _ _) HB).mono ?_; rintro e w' ⟨rfl, HB⟩; try simp only [f1, f2, f3, f4]) | (go_at_call 11; refine (chain (refOf_any _ _) HB).mono ?_; rintro e w' ⟨rfl, HB⟩; try simp only [f1, f2, f3, f4]) | (go_at_call 12; refine (chain (pages_any _ _) HB).mono ?_; rintro e w' ⟨rfl, HB⟩; try simp only [f1, f2, f3, f4]) | (go_at_call 13; refine (chain (refPages_any _ _) HB).mono ?_; rintro e w' ⟨rfl, HB⟩; try simp only [f1, f2, f3, f4]) | (go_at_call 15; refine (chain (size_any _ _) HB).mono ?_; rintro e w' ⟨rfl, HB⟩; try simp only [f1, f2, f3, f4]) | (go_at_call 18; refine (chain (slots_any _ _) HB).mono ?_; rintro e w' ⟨rfl, HB⟩; try simp only [f1, f2, f3, f4]) | (go_at_call 19; refine (chain (refSlots_any _ _) HB).mono ?_; rintro e w' ⟨rfl, HB⟩; try simp only [f1, f2, f3, f4]) | (go_at_call 20; refine (chain (place_any _ _ _ (by omega) (by omega)) HB).mono ?_; rintro e w' ⟨rfl, HB⟩; try simp only [f1, f2, f3, f4]) | (go_at_call 16; refine (chain (classes_any _) HB).mono ?_; rintro e w' ⟨rfl, HB⟩) | (go_at_call 14; refine (chain (awake_yes _) HB).mono ?_; rintro e w' ⟨rfl, HB⟩))
              all_goals (go_ret; exact ⟨rfl, HB.out⟩)
          · have d3 : decide (b ≤ a) = false := by simp; omega
            have d4 : decide (a ≤ b) = true := by simp; omega
            have d5 : decide (2 + a * 4 + 4 ≤ 2 + b * 4) = true := by simp; omega
            go_enter Try.func8, Try.ntmps8
            have HB := Lib.hid (Below.refl w.heap.size w)
            go_wp2_with (first | (go_at_call 10; refine (chain (of_any _ _) HB).mono ?_; rintro e w' ⟨rfl, HB⟩; try simp only [f1, f2, f3, f4]) | (go_at_call 11; refine (chain (refOf_any _ _) HB).mono ?_; rintro e w' ⟨rfl, HB⟩; try simp only [f1, f2, f3, f4]) | (go_at_call 12; refine (chain (pages_any _ _) HB).mono ?_; rintro e w' ⟨rfl, HB⟩; try simp only [f1, f2, f3, f4]) | (go_at_call 13; refine (chain (refPages_any _ _) HB).mono ?_; rintro e w' ⟨rfl, HB⟩; try simp only [f1, f2, f3, f4]) | (go_at_call 15; refine (chain (size_any _ _) HB).mono ?_; rintro e w' ⟨rfl, HB⟩; try simp only [f1, f2, f3, f4]) | (go_at_call 18; refine (chain (slots_any _ _) HB).mono ?_; rintro e w' ⟨rfl, HB⟩; try simp only [f1, f2, f3, f4]) | (go_at_call 19; refine (chain (refSlots_any _ _) HB).mono ?_; rintro e w' ⟨rfl, HB⟩; try simp only [f1, f2, f3, f4]) | (go_at_call 20; refine (chain (place_any _ _ _ (by omega) (by omega)) HB).mono ?_; rintro e w' ⟨rfl, HB⟩; try simp only [f1, f2, f3, f4]) | (go_at_call 16; refine (chain (classes_any _) HB).mono ?_; rintro e w' ⟨rfl, HB⟩) | (go_at_call 14; refine (chain (awake_yes _) HB).mono ?_; rintro e w' ⟨rfl, HB⟩))
            all_goals (go_ret; exact ⟨rfl, HB.out⟩)
        · have f3 : placeR 2 a = .tuple #[.int .i64 (2 + a * 4), .int .i64 0] := placeR_in ⟨by omega, hA.1, hA.2⟩
          have f4 : placeR 2 b = .tuple #[.int .i64 0, .int .i64 2] := placeR_out (fun hh => hB hh.2)
          obtain ⟨hA1, hA2⟩ := hA
          clear hB
          go_enter Try.func8, Try.ntmps8
          have HB := Lib.hid (Below.refl w.heap.size w)
          go_wp2_with (first | (go_at_call 10; refine (chain (of_any _ _) HB).mono ?_; rintro e w' ⟨rfl, HB⟩; try simp only [f1, f2, f3, f4]) | (go_at_call 11; refine (chain (refOf_any _ _) HB).mono ?_; rintro e w' ⟨rfl, HB⟩; try simp only [f1, f2, f3, f4]) | (go_at_call 12; refine (chain (pages_any _ _) HB).mono ?_; rintro e w' ⟨rfl, HB⟩; try simp only [f1, f2, f3, f4]) | (go_at_call 13; refine (chain (refPages_any _ _) HB).mono ?_; rintro e w' ⟨rfl, HB⟩; try simp only [f1, f2, f3, f4]) | (go_at_call 15; refine (chain (size_any _ _) HB).mono ?_; rintro e w' ⟨rfl, HB⟩; try simp only [f1, f2, f3, f4]) | (go_at_call 18; refine (chain (slots_any _ _) HB).mono ?_; rintro e w' ⟨rfl, HB⟩; try simp only [f1, f2, f3, f4]) | (go_at_call 19; refine (chain (refSlots_any _ _) HB).mono ?_; rintro e w' ⟨rfl, HB⟩; try simp only [f1, f2, f3, f4]) | (go_at_call 20; refine (chain (place_any _ _ _ (by omega) (by omega)) HB).mono ?_; rintro e w' ⟨rfl, HB⟩; try simp only [f1, f2, f3, f4]) | (go_at_call 16; refine (chain (classes_any _) HB).mono ?_; rintro e w' ⟨rfl, HB⟩) | (go_at_call 14; refine (chain (awake_yes _) HB).mono ?_; rintro e w' ⟨rfl, HB⟩))
          all_goals (go_ret; exact ⟨rfl, HB.out⟩)
      · have f3 : placeR 2 a = .tuple #[.int .i64 0, .int .i64 2] := placeR_out (fun hh => hA hh.2)
        have f4 : ∃ q g, placeR 2 b = .tuple #[.int .i64 q, .int .i64 (g : Nat)] := by unfold placeR; split; exact ⟨_, 0, rfl⟩; exact ⟨_, 2, rfl⟩
        obtain ⟨q, g, f4⟩ := f4
        clear hA
        go_enter Try.func8, Try.ntmps8
        have HB := Lib.hid (Below.refl w.heap.size w)
        go_wp2_with (first | (go_at_call 10; refine (chain (of_any _ _) HB).mono ?_; rintro e w' ⟨rfl, HB⟩; try simp only [f1, f2, f3, f4]) | (go_at_call 11; refine (chain (refOf_any _ _) HB).mono ?_; rintro e w' ⟨rfl, HB⟩; try simp only [f1, f2, f3, f4]) | (go_at_call 12; refine (chain (pages_any _ _) HB).mono ?_; rintro e w' ⟨rfl, HB⟩; try simp only [f1, f2, f3, f4]) | (go_at_call 13; refine (chain (refPages_any _ _) HB).mono ?_; rintro e w' ⟨rfl, HB⟩; try simp only [f1, f2, f3, f4]) | (go_at_call 15; refine (chain (size_any _ _) HB).mono ?_; rintro e w' ⟨rfl, HB⟩; try simp only [f1, f2, f3, f4]) | (go_at_call 18; refine (chain (slots_any _ _) HB).mono ?_; rintro e w' ⟨rfl, HB⟩; try simp only [f1, f2, f3, f4]) | (go_at_call 19; refine (chain (refSlots_any _ _) HB).mono ?_; rintro e w' ⟨rfl, HB⟩; try simp only [f1, f2, f3, f4]) | (go_at_call 20; refine (chain (place_any _ _ _ (by omega) (by omega)) HB).mono ?_; rintro e w' ⟨rfl, HB⟩; try simp only [f1, f2, f3, f4]) | (go_at_call 16; refine (chain (classes_any _) HB).mono ?_; rintro e w' ⟨rfl, HB⟩) | (go_at_call 14; refine (chain (awake_yes _) HB).mono ?_; rintro e w' ⟨rfl, HB⟩))
        all_goals (go_ret; exact ⟨rfl, HB.out⟩)
    · have f1 : sizeR 3 = .tuple #[.int .i64 6, .int .i64 0] := rfl
      have f2 : slotsR 3 = .tuple #[.int .i64 10, .int .i64 0] := rfl
      clear h hc1 hc2
      by_cases hA : 0 ≤ a ∧ a < 10
      · by_cases hB : 0 ≤ b ∧ b < 10
        · have f3 : placeR 3 a = .tuple #[.int .i64 (2 + a * 6), .int .i64 0] := placeR_in ⟨by omega, hA.1, hA.2⟩
          have f4 : placeR 3 b = .tuple #[.int .i64 (2 + b * 6), .int .i64 0] := placeR_in ⟨by omega, hB.1, hB.2⟩
          obtain ⟨hA1, hA2⟩ := hA
          obtain ⟨hB1, hB2⟩ := hB
          have e1 : ((a == b) == (2 + a * 6 == 2 + b * 6)) = true := by
            by_cases hab : a = b
            · subst hab; simp
            · have x1 : (a == b) = false := by simp [hab]
              have x2 : (2 + a * 6 == 2 + b * 6) = false := by simp; omega
              rw [x1, x2]; rfl
          have d1 : decide (2 + a * 6 < 2) = false := by simp; omega
          have d2 : decide (64 < 2 + a * 6 + 6) = false := by simp; omega
          by_cases hab : b ≤ a
          · have d3 : decide (b ≤ a) = true := by simp; omega
            by_cases hba : a ≤ b
            · have d4 : decide (a ≤ b) = true := by simp; omega
              go_enter Try.func8, Try.ntmps8
              have HB := Lib.hid (Below.refl w.heap.size w)
              go_wp2_with (first | (go_at_call 10; refine (chain (of_any _ _) HB).mono ?_; rintro e w' ⟨rfl, HB⟩; try simp only [f1, f2, f3, f4]) | (go_at_call 11; refine (chain (refOf_any _ _) HB).mono ?_; rintro e w' ⟨rfl, HB⟩; try simp only [f1, f2, f3, f4]) | (go_at_call 12; refine (chain (pages_any _ _) HB).mono ?_; rintro e w' ⟨rfl, HB⟩; try simp only [f1, f2, f3, f4]) | (go_at_call 13; refine (chain (refPages_any _ _) HB).mono ?_; rintro e w' ⟨rfl, HB⟩; try simp only [f1, f2, f3, f4]) | (go_at_call 15; refine (chain (size_any _ _) HB).mono ?_; rintro e w' ⟨rfl, HB⟩; try simp only [f1, f2, f3, f4]) | (go_at_call 18; refine (chain (slots_any _ _) HB).mono ?_; rintro e w' ⟨rfl, HB⟩; try simp only [f1, f2, f3, f4]) | (go_at_call 19; refine (chain (refSlots_any _ _) HB).mono ?_; rintro e w' ⟨rfl, HB⟩; try simp only [f1, f2, f3, f4]) | (go_at_call 20; refine (chain (place_any _ _ _ (by omega) (by omega)) HB).mono ?_; rintro e w' ⟨rfl, HB⟩; try simp only [f1, f2, f3, f4]) | (go_at_call 16; refine (chain (classes_any _) HB).mono ?_; rintro e w' ⟨rfl, HB⟩) | (go_at_call 14; refine (chain (awake_yes _) HB).mono ?_; rintro e w' ⟨rfl, HB⟩))
              all_goals (go_ret; exact ⟨rfl, HB.out⟩)
            · have d4 : decide (a ≤ b) = false := by simp; omega
              have d5 : decide (2 + b * 6 + 6 ≤ 2 + a * 6) = true := by simp; omega
              go_enter Try.func8, Try.ntmps8
              have HB := Lib.hid (Below.refl w.heap.size w)
              go_wp2_with (first | (go_at_call 10; refine (chain (of_any _ _) HB).mono ?_; rintro e w' ⟨rfl, HB⟩; try simp only [f1, f2, f3, f4]) | (go_at_call 11; refine (chain (refOf_any _ _) HB).mono ?_; rintro e w' ⟨rfl, HB⟩; try simp only [f1, f2, f3, f4]) | (go_at_call 12; refine (chain (pages_any _ _) HB).mono ?_; rintro e w' ⟨rfl, HB⟩; try simp only [f1, f2, f3, f4]) | (go_at_call 13; refine (chain (refPages_any _ _) HB).mono ?_; rintro e w' ⟨rfl, HB⟩; try simp only [f1, f2, f3, f4]) | (go_at_call 15; refine (chain (size_any _ _) HB).mono ?_; rintro e w' ⟨rfl, HB⟩; try simp only [f1, f2, f3, f4]) | (go_at_call 18; refine (chain (slots_any _ _) HB).mono ?_; rintro e w' ⟨rfl, HB⟩; try simp only [f1, f2, f3, f4]) | (go_at_call 19; refine (chain (refSlots_any _ _) HB).mono ?_; rintro e w' ⟨rfl, HB⟩; try simp only [f1, f2, f3, f4]) | (go_at_call 20; refine (chain (place_any _ _ _ (by omega) (by omega)) HB).mono ?_; rintro e w' ⟨rfl, HB⟩; try simp only [f1, f2, f3, f4]) | (go_at_call 16; refine (chain (classes_any _) HB).mono ?_; rintro e w' ⟨rfl, HB⟩) | (go_at_call 14; refine (chain (awake_yes _) HB).mono ?_; rintro e w' ⟨rfl, HB⟩))
              all_goals (go_ret; exact ⟨rfl, HB.out⟩)
          · have d3 : decide (b ≤ a) = false := by simp; omega
            have d4 : decide (a ≤ b) = true := by simp; omega
            have d5 : decide (2 + a * 6 + 6 ≤ 2 + b * 6) = true := by simp; omega
            go_enter Try.func8, Try.ntmps8
            have HB := Lib.hid (Below.refl w.heap.size w)
            go_wp2_with (first | (go_at_call 10; refine (chain (of_any _ _) HB).mono ?_; rintro e w' ⟨rfl, HB⟩; try simp only [f1, f2, f3, f4]) | (go_at_call 11; refine (chain (refOf_any _ _) HB).mono ?_; rintro e w' ⟨rfl, HB⟩; try simp only [f1, f2, f3, f4]) | (go_at_call 12; refine (chain (pages_any _ _) HB).mono ?_; rintro e w' ⟨rfl, HB⟩; try simp only [f1, f2, f3, f4]) | (go_at_call 13; refine (chain (refPages_any _ _) HB).mono ?_; rintro e w' ⟨rfl, HB⟩; try simp only [f1, f2, f3, f4]) | (go_at_call 15; refine (chain (size_any _ _) HB).mono ?_; rintro e w' ⟨rfl, HB⟩; try simp only [f1, f2, f3, f4]) | (go_at_call 18; refine (chain (slots_any _ _) HB).mono ?_; rintro e w' ⟨rfl, HB⟩; try simp only [f1, f2, f3, f4]) | (go_at_call 19; refine (chain (refSlots_any _ _) HB).mono ?_; rintro e w' ⟨rfl, HB⟩; try simp only [f1, f2, f3, f4]) | (go_at_call 20; refine (chain (place_any _ _ _ (by omega) (by omega)) HB).mono ?_; rintro e w' ⟨rfl, HB⟩; try simp only [f1, f2, f3, f4]) | (go_at_call 16; refine (chain (classes_any _) HB).mono ?_; rintro e w' ⟨rfl, HB⟩) | (go_at_call 14; refine (chain (awake_yes _) HB).mono ?_; rintro e w' ⟨rfl, HB⟩))
            all_goals (go_ret; exact ⟨rfl, HB.out⟩)
        · have f3 : placeR 3 a = .tuple #[.int .i64 (2 + a * 6), .int .i64 0] := placeR_in ⟨by omega, hA.1, hA.2⟩
          have f4 : placeR 3 b = .tuple #[.int .i64 0, .int .i64 2] := placeR_out (fun hh => hB hh.2)
          obtain ⟨hA1, hA2⟩ := hA
          clear hB
          go_enter Try.func8, Try.ntmps8
          have HB := Lib.hid (Below.refl w.heap.size w)
          go_wp2_with (first | (go_at_call 10; refine (chain (of_any _ _) HB).mono ?_; rintro e w' ⟨rfl, HB⟩; try simp only [f1, f2, f3, f4]) | (go_at_call 11; refine (chain (refOf_any _ _) HB).mono ?_; rintro e w' ⟨rfl, HB⟩; try simp only [f1, f2, f3, f4]) | (go_at_call 12; refine (chain (pages_any _ _) HB).mono ?_; rintro e w' ⟨rfl, HB⟩; try simp only [f1, f2, f3, f4]) | (go_at_call 13; refine (chain (refPages_any _ _) HB).mono ?_; rintro e w' ⟨rfl, HB⟩; try simp only [f1, f2, f3, f4]) | (go_at_call 15; refine (chain (size_any _ _) HB).mono ?_; rintro e w' ⟨rfl, HB⟩; try simp only [f1, f2, f3, f4]) | (go_at_call 18; refine (chain (slots_any _ _) HB).mono ?_; rintro e w' ⟨rfl, HB⟩; try simp only [f1, f2, f3, f4]) | (go_at_call 19; refine (chain (refSlots_any _ _) HB).mono ?_; rintro e w' ⟨rfl, HB⟩; try simp only [f1, f2, f3, f4]) | (go_at_call 20; refine (chain (place_any _ _ _ (by omega) (by omega)) HB).mono ?_; rintro e w' ⟨rfl, HB⟩; try simp only [f1, f2, f3, f4]) | (go_at_call 16; refine (chain (classes_any _) HB).mono ?_; rintro e w' ⟨rfl, HB⟩) | (go_at_call 14; refine (chain (awake_yes _) HB).mono ?_; rintro e w' ⟨rfl, HB⟩))
          all_goals (go_ret; exact ⟨rfl, HB.out⟩)
      · have f3 : placeR 3 a = .tuple #[.int .i64 0, .int .i64 2] := placeR_out (fun hh => hA hh.2)
        have f4 : ∃ q g, placeR 3 b = .tuple #[.int .i64 q, .int .i64 (g : Nat)] := by unfold placeR; split; exact ⟨_, 0, rfl⟩; exact ⟨_, 2, rfl⟩
        obtain ⟨q, g, f4⟩ := f4
        clear hA
        go_enter Try.func8, Try.ntmps8
        have HB := Lib.hid (Below.refl w.heap.size w)
        go_wp2_with (first | (go_at_call 10; refine (chain (of_any _ _) HB).mono ?_; rintro e w' ⟨rfl, HB⟩; try simp only [f1, f2, f3, f4]) | (go_at_call 11; refine (chain (refOf_any _ _) HB).mono ?_; rintro e w' ⟨rfl, HB⟩; try simp only [f1, f2, f3, f4]) | (go_at_call 12; refine (chain (pages_any _ _) HB).mono ?_; rintro e w' ⟨rfl, HB⟩; try simp only [f1, f2, f3, f4]) | (go_at_call 13; refine (chain (refPages_any _ _) HB).mono ?_; rintro e w' ⟨rfl, HB⟩; try simp only [f1, f2, f3, f4]) | (go_at_call 15; refine (chain (size_any _ _) HB).mono ?_; rintro e w' ⟨rfl, HB⟩; try simp only [f1, f2, f3, f4]) | (go_at_call 18; refine (chain (slots_any _ _) HB).mono ?_; rintro e w' ⟨rfl, HB⟩; try simp only [f1, f2, f3, f4]) | (go_at_call 19; refine (chain (refSlots_any _ _) HB).mono ?_; rintro e w' ⟨rfl, HB⟩; try simp only [f1, f2, f3, f4]) | (go_at_call 20; refine (chain (place_any _ _ _ (by omega) (by omega)) HB).mono ?_; rintro e w' ⟨rfl, HB⟩; try simp only [f1, f2, f3, f4]) | (go_at_call 16; refine (chain (classes_any _) HB).mono ?_; rintro e w' ⟨rfl, HB⟩) | (go_at_call 14; refine (chain (awake_yes _) HB).mono ?_; rintro e w' ⟨rfl, HB⟩))
        all_goals (go_ret; exact ⟨rfl, HB.out⟩)
    · have f1 : sizeR 4 = .tuple #[.int .i64 9, .int .i64 0] := rfl
      have f2 : slotsR 4 = .tuple #[.int .i64 6, .int .i64 0] := rfl
      clear h hc1 hc2
      by_cases hA : 0 ≤ a ∧ a < 6
      · by_cases hB : 0 ≤ b ∧ b < 6
        · have f3 : placeR 4 a = .tuple #[.int .i64 (2 + a * 9), .int .i64 0] := placeR_in ⟨by omega, hA.1, hA.2⟩
          have f4 : placeR 4 b = .tuple #[.int .i64 (2 + b * 9), .int .i64 0] := placeR_in ⟨by omega, hB.1, hB.2⟩
          obtain ⟨hA1, hA2⟩ := hA
          obtain ⟨hB1, hB2⟩ := hB
          have e1 : ((a == b) == (2 + a * 9 == 2 + b * 9)) = true := by
            by_cases hab : a = b
            · subst hab; simp
            · have x1 : (a == b) = false := by simp [hab]
              have x2 : (2 + a * 9 == 2 + b * 9) = false := by simp; omega
              rw [x1, x2]; rfl
          have d1 : decide (2 + a * 9 < 2) = false := by simp; omega
          have d2 : decide (64 < 2 + a * 9 + 9) = false := by simp; omega
          by_cases hab : b ≤ a
          · have d3 : decide (b ≤ a) = true := by simp; omega
            by_cases hba : a ≤ b
            · have d4 : decide (a ≤ b) = true := by simp; omega
              go_enter Try.func8, Try.ntmps8
              have HB := Lib.hid (Below.refl w.heap.size w)
              go_wp2_with (first | (go_at_call 10; refine (chain (of_any _ _) HB).mono ?_; rintro e w' ⟨rfl, HB⟩; try simp only [f1, f2, f3, f4]) | (go_at_call 11; refine (chain (refOf_any _ _) HB).mono ?_; rintro e w' ⟨rfl, HB⟩; try simp only [f1, f2, f3, f4]) | (go_at_call 12; refine (chain (pages_any _ _) HB).mono ?_; rintro e w' ⟨rfl, HB⟩; try simp only [f1, f2, f3, f4]) | (go_at_call 13; refine (chain (refPages_any _ _) HB).mono ?_; rintro e w' ⟨rfl, HB⟩; try simp only [f1, f2, f3, f4]) | (go_at_call 15; refine (chain (size_any _ _) HB).mono ?_; rintro e w' ⟨rfl, HB⟩; try simp only [f1, f2, f3, f4]) | (go_at_call 18; refine (chain (slots_any _ _) HB).mono ?_; rintro e w' ⟨rfl, HB⟩; try simp only [f1, f2, f3, f4]) | (go_at_call 19; refine (chain (refSlots_any _ _) HB).mono ?_; rintro e w' ⟨rfl, HB⟩; try simp only [f1, f2, f3, f4]) | (go_at_call 20; refine (chain (place_any _ _ _ (by omega) (by omega)) HB).mono ?_; rintro e w' ⟨rfl, HB⟩; try simp only [f1, f2, f3, f4]) | (go_at_call 16; refine (chain (classes_any _) HB).mono ?_; rintro e w' ⟨rfl, HB⟩) | (go_at_call 14; refine (chain (awake_yes _) HB).mono ?_; rintro e w' ⟨rfl, HB⟩))
              all_goals (go_ret; exact ⟨rfl, HB.out⟩)
            · have d4 : decide (a ≤ b) = false := by simp; omega
              have d5 : decide (2 + b * 9 + 9 ≤ 2 + a * 9) = true := by simp; omega
              go_enter Try.func8, Try.ntmps8
              have HB := Lib.hid (Below.refl w.heap.size w)
              go_wp2_with (first | (go_at_call 10; refine (chain (of_any _ _) HB).mono ?_; rintro e w' ⟨rfl, HB⟩; try simp only [f1, f2, f3, f4]) | (go_at_call 11; refine (chain (refOf_any _ _) HB).mono ?_; rintro e w' ⟨rfl, HB⟩; try simp only [f1, f2, f3, f4]) | (go_at_call 12; refine (chain (pages_any _ _) HB).mono ?_; rintro e w' ⟨rfl, HB⟩; try simp only [f1, f2, f3, f4]) | (go_at_call 13; refine (chain (refPages_any _ _) HB).mono ?_; rintro e w' ⟨rfl, HB⟩; try simp only [f1, f2, f3, f4]) | (go_at_call 15; refine (chain (size_any _ _) HB).mono ?_; rintro e w' ⟨rfl, HB⟩; try simp only [f1, f2, f3, f4]) | (go_at_call 18; refine (chain (slots_any _ _) HB).mono ?_; rintro e w' ⟨rfl, HB⟩; try simp only [f1, f2, f3, f4]) | (go_at_call 19; refine (chain (refSlots_any _ _) HB).mono ?_; rintro e w' ⟨rfl, HB⟩; try simp only [f1, f2, f3, f4]) | (go_at_call 20; refine (chain (place_any _ _ _ (by omega) (by omega)) HB).mono ?_; rintro e w' ⟨rfl, HB⟩; try simp only [f1, f2, f3, f4]) | (go_at_call 16; refine (chain (classes_any _) HB).mono ?_; rintro e w' ⟨rfl, HB⟩) | (go_at_call 14; refine (chain (awake_yes _) HB).mono ?_; rintro e w' ⟨rfl, HB⟩))
              all_goals (go_ret; exact ⟨rfl, HB.out⟩)
          · have d3 : decide (b ≤ a) = false := by simp; omega
            have d4 : decide (a ≤ b) = true := by simp; omega
            have d5 : decide (2 + a * 9 + 9 ≤ 2 + b * 9) = true := by simp; omega
            go_enter Try.func8, Try.ntmps8
            have HB := Lib.hid (Below.refl w.heap.size w)
            go_wp2_with (first | (go_at_call 10; refine (chain (of_any _ _) HB).mono ?_; rintro e w' ⟨rfl, HB⟩; try simp only [f1, f2, f3, f4]) | (go_at_call 11; refine (chain (refOf_any _ _) HB).mono ?_; rintro e w' ⟨rfl, HB⟩; try simp only [f1, f2, f3, f4]) | (go_at_call 12; refine (chain (pages_any _ _) HB).mono ?_; rintro e w' ⟨rfl, HB⟩; try simp only [f1, f2, f3, f4]) | (go_at_call 13; refine (chain (refPages_any _ _) HB).mono ?_; rintro e w' ⟨rfl, HB⟩; try simp only [f1, f2, f3, f4]) | (go_at_call 15; refine (chain (size_any _ _) HB).mono ?_; rintro e w' ⟨rfl, HB⟩; try simp only [f1, f2, f3, f4]) | (go_at_call 18; refine (chain (slots_any _ _) HB).mono ?_; rintro e w' ⟨rfl, HB⟩; try simp only [f1, f2, f3, f4]) | (go_at_call 19; refine (chain (refSlots_any _ _) HB).mono ?_; rintro e w' ⟨rfl, HB⟩; try simp only [f1, f2, f3, f4]) | (go_at_call 20; refine (chain (place_any _ _ _ (by omega) (by omega)) HB).mono ?_; rintro e w' ⟨rfl, HB⟩; try simp only [f1, f2, f3, f4]) | (go_at_call 16; refine (chain (classes_any _) HB).mono ?_; rintro e w' ⟨rfl, HB⟩) | (go_at_call 14; refine (chain (awake_yes _) HB).mono ?_; rintro e w' ⟨rfl, HB⟩))
            all_goals (go_ret; exact ⟨rfl, HB.out⟩)
        · have f3 : placeR 4 a = .tuple #[.int .i64 (2 + a * 9), .int .i64 0] := placeR_in ⟨by omega, hA.1, hA.2⟩
          have f4 : placeR 4 b = .tuple #[.int .i64 0, .int .i64 2] := placeR_out (fun hh => hB hh.2)
          obtain ⟨hA1, hA2⟩ := hA
          clear hB
          go_enter Try.func8, Try.ntmps8
          have HB := Lib.hid (Below.refl w.heap.size w)
          go_wp2_with (first | (go_at_call 10; refine (chain (of_any _ _) HB).mono ?_; rintro e w' ⟨rfl, HB⟩; try simp only [f1, f2, f3, f4]) | (go_at_call 11; refine (chain (refOf_any _ _) HB).mono ?_; rintro e w' ⟨rfl, HB⟩; try simp only [f1, f2, f3, f4]) | (go_at_call 12; refine (chain (pages_any _ _) HB).mono ?_; rintro e w' ⟨rfl, HB⟩; try simp only [f1, f2, f3, f4]) | (go_at_call 13; refine (chain (refPages_any _ _) HB).mono ?_; rintro e w' ⟨rfl, HB⟩; try simp only [f1, f2, f3, f4]) | (go_at_call 15; refine (chain (size_any _ _) HB).mono ?_; rintro e w' ⟨rfl, HB⟩; try simp only [f1, f2, f3, f4]) | (go_at_call 18; refine (chain (slots_any _ _) HB).mono ?_; rintro e w' ⟨rfl, HB⟩; try simp only [f1, f2, f3, f4]) | (go_at_call 19; refine (chain (refSlots_any _ _) HB).mono ?_; rintro e w' ⟨rfl, HB⟩; try simp only [f1, f2, f3, f4]) | (go_at_call 20; refine (chain (place_any _ _ _ (by omega) (by omega)) HB).mono ?_; rintro e w' ⟨rfl, HB⟩; try simp only [f1, f2, f3, f4]) | (go_at_call 16; refine (chain (classes_any _) HB).mono ?_; rintro e w' ⟨rfl, HB⟩) | (go_at_call 14; refine (chain (awake_yes _) HB).mono ?_; rintro e w' ⟨rfl, HB⟩))
          all_goals (go_ret; exact ⟨rfl, HB.out⟩)
      · have f3 : placeR 4 a = .tuple #[.int .i64 0, .int .i64 2] := placeR_out (fun hh => hA hh.2)
        have f4 : ∃ q g, placeR 4 b = .tuple #[.int .i64 q, .int .i64 (g : Nat)] := by unfold placeR; split; exact ⟨_, 0, rfl⟩; exact ⟨_, 2, rfl⟩
        obtain ⟨q, g, f4⟩ := f4
        clear hA
        go_enter Try.func8, Try.ntmps8
        have HB := Lib.hid (Below.refl w.heap.size w)
        go_wp2_with (first | (go_at_call 10; refine (chain (of_any _ _) HB).mono ?_; rintro e w' ⟨rfl, HB⟩; try simp only [f1, f2, f3, f4]) | (go_at_call 11; refine (chain (refOf_any _ _) HB).mono ?_; rintro e w' ⟨rfl, HB⟩; try simp only [f1, f2, f3, f4]) | (go_at_call 12; refine (chain (pages_any _ _) HB).mono ?_; rintro e w' ⟨rfl, HB⟩; try simp only [f1, f2, f3, f4]) | (go_at_call 13; refine (chain (refPages_any _ _) HB).mono ?_; rintro e w' ⟨rfl, HB⟩; try simp only [f1, f2, f3, f4]) | (go_at_call 15; refine (chain (size_any _ _) HB).mono ?_; rintro e w' ⟨rfl, HB⟩; try simp only [f1, f2, f3, f4]) | (go_at_call 18; refine (chain (slots_any _ _) HB).mono ?_; rintro e w' ⟨rfl, HB⟩; try simp only [f1, f2, f3, f4]) | (go_at_call 19; refine (chain (refSlots_any _ _) HB).mono ?_; rintro e w' ⟨rfl, HB⟩; try simp only [f1, f2, f3, f4]) | (go_at_call 20; refine (chain (place_any _ _ _ (by omega) (by omega)) HB).mono ?_; rintro e w' ⟨rfl, HB⟩; try simp only [f1, f2, f3, f4]) | (go_at_call 16; refine (chain (classes_any _) HB).mono ?_; rintro e w' ⟨rfl, HB⟩) | (go_at_call 14; refine (chain (awake_yes _) HB).mono ?_; rintro e w' ⟨rfl, HB⟩))
        all_goals (go_ret; exact ⟨rfl, HB.out⟩)
    · have f1 : sizeR 5 = .tuple #[.int .i64 13, .int .i64 0] := rfl
      have f2 : slotsR 5 = .tuple #[.int .i64 4, .int .i64 0] := rfl
      clear h hc1 hc2
      by_cases hA : 0 ≤ a ∧ a < 4
      · by_cases hB : 0 ≤ b ∧ b < 4
        · have f3 : placeR 5 a = .tuple #[.int .i64 (2 + a * 13), .int .i64 0] := placeR_in ⟨by omega, hA.1, hA.2⟩
          have f4 : placeR 5 b = .tuple #[.int .i64 (2 + b * 13), .int .i64 0] := placeR_in ⟨by omega, hB.1, hB.2⟩
          obtain ⟨hA1, hA2⟩ := hA
          obtain ⟨hB1, hB2⟩ := hB
          have e1 : ((a == b) == (2 + a * 13 == 2 + b * 13)) = true := by
            by_cases hab : a = b
            · subst hab; simp
            · have x1 : (a == b) = false := by simp [hab]
              have x2 : (2 + a * 13 == 2 + b * 13) = false := by simp; omega
              rw [x1, x2]; rfl
          have d1 : decide (2 + a * 13 < 2) = false := by simp; omega
          have d2 : decide (64 < 2 + a * 13 + 13) = false := by simp; omega
          by_cases hab : b ≤ a
          · have d3 : decide (b ≤ a) = true := by simp; omega
            by_cases hba : a ≤ b
            · have d4 : decide (a ≤ b) = true := by simp; omega
              go_enter Try.func8, Try.ntmps8
              have HB := Lib.hid (Below.refl w.heap.size w)
              go_wp2_with (first | (go_at_call 10; refine (chain (of_any _ _) HB).mono ?_; rintro e w' ⟨rfl, HB⟩; try simp only [f1, f2, f3, f4]) | (go_at_call 11; refine (chain (refOf_any _ _) HB).mono ?_; rintro e w' ⟨rfl, HB⟩; try simp only [f1, f2, f3, f4]) | (go_at_call 12; refine (chain (pages_any _ _) HB).mono ?_; rintro e w' ⟨rfl, HB⟩; try simp only [f1, f2, f3, f4]) | (go_at_call 13; refine (chain (refPages_any _ _) HB).mono ?_; rintro e w' ⟨rfl, HB⟩; try simp only [f1, f2, f3, f4]) | (go_at_call 15; refine (chain (size_any _ _) HB).mono ?_; rintro e w' ⟨rfl, HB⟩; try simp only [f1, f2, f3, f4]) | (go_at_call 18; refine (chain (slots_any _ _) HB).mono ?_; rintro e w' ⟨rfl, HB⟩; try simp only [f1, f2, f3, f4]) | (go_at_call 19; refine (chain (refSlots_any _ _) HB).mono ?_; rintro e w' ⟨rfl, HB⟩; try simp only [f1, f2, f3, f4]) | (go_at_call 20; refine (chain (place_any _ _ _ (by omega) (by omega)) HB).mono ?_; rintro e w' ⟨rfl, HB⟩; try simp only [f1, f2, f3, f4]) | (go_at_call 16; refine (chain (classes_any _) HB).mono ?_; rintro e w' ⟨rfl, HB⟩) | (go_at_call 14; refine (chain (awake_yes _) HB).mono ?_; rintro e w' ⟨rfl, HB⟩))
              all_goals (go_ret; exact ⟨rfl, HB.out⟩)
            · have d4 : decide (a ≤ b) = false := by simp; omega
              have d5 : decide (2 + b * 13 + 13 ≤ 2 + a * 13) = true := by simp; omega
              go_enter Try.func8, Try.ntmps8
              have HB := Lib.hid (Below.refl w.heap.size w)
              go_wp2_with (first | (go_at_call 10; refine (chain (of_any _ _) HB).mono ?_; rintro e w' ⟨rfl, HB⟩; try simp only [f1, f2, f3, f4]) | (go_at_call 11; refine (chain (refOf_any _ _) HB).mono ?_; rintro e w' ⟨rfl, HB⟩; try simp only [f1, f2, f3, f4]) | (go_at_call 12; refine (chain (pages_any _ _) HB).mono ?_; rintro e w' ⟨rfl, HB⟩; try simp only [f1, f2, f3, f4]) | (go_at_call 13; refine (chain (refPages_any _ _) HB).mono ?_; rintro e w' ⟨rfl, HB⟩; try simp only [f1, f2, f3, f4]) | (go_at_call 15; refine (chain (size_any _ _) HB).mono ?_; rintro e w' ⟨rfl, HB⟩; try simp only [f1, f2, f3, f4]) | (go_at_call 18; refine (chain (slots_any _ _) HB).mono ?_; rintro e w' ⟨rfl, HB⟩; try simp only [f1, f2, f3, f4]) | (go_at_call 19; refine (chain (refSlots_any _ _) HB).mono ?_; rintro e w' ⟨rfl, HB⟩; try simp only [f1, f2, f3, f4]) | (go_at_call 20; refine (chain (place_any _ _ _ (by omega) (by omega)) HB).mono ?_; rintro e w' ⟨rfl, HB⟩; try simp only [f1, f2, f3, f4]) | (go_at_call 16; refine (chain (classes_any _) HB).mono ?_; rintro e w' ⟨rfl, HB⟩) | (go_at_call 14; refine (chain (awake_yes _) HB).mono ?_; rintro e w' ⟨rfl, HB⟩))
              all_goals (go_ret; exact ⟨rfl, HB.out⟩)
          · have d3 : decide (b ≤ a) = false := by simp; omega
            have d4 : decide (a ≤ b) = true := by simp; omega
            have d5 : decide (2 + a * 13 + 13 ≤ 2 + b * 13) = true := by simp; omega
            go_enter Try.func8, Try.ntmps8
            have HB := Lib.hid (Below.refl w.heap.size w)
            go_wp2_with (first | (go_at_call 10; refine (chain (of_any _ _) HB).mono ?_; rintro e w' ⟨rfl, HB⟩; try simp only [f1, f2, f3, f4]) | (go_at_call 11; refine (chain (refOf_any _ _) HB).mono ?_; rintro e w' ⟨rfl, HB⟩; try simp only [f1, f2, f3, f4]) | (go_at_call 12; refine (chain (pages_any _ _) HB).mono ?_; rintro e w' ⟨rfl, HB⟩; try simp only [f1, f2, f3, f4]) | (go_at_call 13; refine (chain (refPages_any _ _) HB).mono ?_; rintro e w' ⟨rfl, HB⟩; try simp only [f1, f2, f3, f4]) | (go_at_call 15; refine (chain (size_any _ _) HB).mono ?_; rintro e w' ⟨rfl, HB⟩; try simp only [f1, f2, f3, f4]) | (go_at_call 18; refine (chain (slots_any _ _) HB).mono ?_; rintro e w' ⟨rfl, HB⟩; try simp only [f1, f2, f3, f4]) | (go_at_call 19; refine (chain (refSlots_any _ _) HB).mono ?_; rintro e w' ⟨rfl, HB⟩; try simp only [f1, f2, f3, f4]) | (go_at_call 20; refine (chain (place_any _ _ _ (by omega) (by omega)) HB).mono ?_; rintro e w' ⟨rfl, HB⟩; try simp only [f1, f2, f3, f4]) | (go_at_call 16; refine (chain (classes_any _) HB).mono ?_; rintro e w' ⟨rfl, HB⟩) | (go_at_call 14; refine (chain (awake_yes _) HB).mono ?_; rintro e w' ⟨rfl, HB⟩))
            all_goals (go_ret; exact ⟨rfl, HB.out⟩)
        · have f3 : placeR 5 a = .tuple #[.int .i64 (2 + a * 13), .int .i64 0] := placeR_in ⟨by omega, hA.1, hA.2⟩
          have f4 : placeR 5 b = .tuple #[.int .i64 0, .int .i64 2] := placeR_out (fun hh => hB hh.2)
          obtain ⟨hA1, hA2⟩ := hA
          clear hB
          go_enter Try.func8, Try.ntmps8
          have HB := Lib.hid (Below.refl w.heap.size w)
          go_wp2_with (first | (go_at_call 10; refine (chain (of_any _ _) HB).mono ?_; rintro e w' ⟨rfl, HB⟩; try simp only [f1, f2, f3, f4]) | (go_at_call 11; refine (chain (refOf_any _ _) HB).mono ?_; rintro e w' ⟨rfl, HB⟩; try simp only [f1, f2, f3, f4]) | (go_at_call 12; refine (chain (pages_any _ _) HB).mono ?_; rintro e w' ⟨rfl, HB⟩; try simp only [f1, f2, f3, f4]) | (go_at_call 13; refine (chain (refPages_any _ _) HB).mono ?_; rintro e w' ⟨rfl, HB⟩; try simp only [f1, f2, f3, f4]) | (go_at_call 15; refine (chain (size_any _ _) HB).mono ?_; rintro e w' ⟨rfl, HB⟩; try simp only [f1, f2, f3, f4]) | (go_at_call 18; refine (chain (slots_any _ _) HB).mono ?_; rintro e w' ⟨rfl, HB⟩; try simp only [f1, f2, f3, f4]) | (go_at_call 19; refine (chain (refSlots_any _ _) HB).mono ?_; rintro e w' ⟨rfl, HB⟩; try simp only [f1, f2, f3, f4]) | (go_at_call 20; refine (chain (place_any _ _ _ (by omega) (by omega)) HB).mono ?_; rintro e w' ⟨rfl, HB⟩; try simp only [f1, f2, f3, f4]) | (go_at_call 16; refine (chain (classes_any _) HB).mono ?_; rintro e w' ⟨rfl, HB⟩) | (go_at_call 14; refine (chain (awake_yes _) HB).mono ?_; rintro e w' ⟨rfl, HB⟩))
          all_goals (go_ret; exact ⟨rfl, HB.out⟩)
      · have f3 : placeR 5 a = .tuple #[.int .i64 0, .int .i64 2] := placeR_out (fun hh => hA hh.2)
        have f4 : ∃ q g, placeR 5 b = .tuple #[.int .i64 q, .int .i64 (g : Nat)] := by unfold placeR; split; exact ⟨_, 0, rfl⟩; exact ⟨_, 2, rfl⟩
        obtain ⟨q, g, f4⟩ := f4
        clear hA
        go_enter Try.func8, Try.ntmps8
        have HB := Lib.hid (Below.refl w.heap.size w)
        go_wp2_with (first | (go_at_call 10; refine (chain (of_any _ _) HB).mono ?_; rintro e w' ⟨rfl, HB⟩; try simp only [f1, f2, f3, f4]) | (go_at_call 11; refine (chain (refOf_any _ _) HB).mono ?_; rintro e w' ⟨rfl, HB⟩; try simp only [f1, f2, f3, f4]) | (go_at_call 12; refine (chain (pages_any _ _) HB).mono ?_; rintro e w' ⟨rfl, HB⟩; try simp only [f1, f2, f3, f4]) | (go_at_call 13; refine (chain (refPages_any _ _) HB).mono ?_; rintro e w' ⟨rfl, HB⟩; try simp only [f1, f2, f3, f4]) | (go_at_call 15; refine (chain (size_any _ _) HB).mono ?_; rintro e w' ⟨rfl, HB⟩; try simp only [f1, f2, f3, f4]) | (go_at_call 18; refine (chain (slots_any _ _) HB).mono ?_; rintro e w' ⟨rfl, HB⟩; try simp only [f1, f2, f3, f4]) | (go_at_call 19; refine (chain (refSlots_any _ _) HB).mono ?_; rintro e w' ⟨rfl, HB⟩; try simp only [f1, f2, f3, f4]) | (go_at_call 20; refine (chain (place_any _ _ _ (by omega) (by omega)) HB).mono ?_; rintro e w' ⟨rfl, HB⟩; try simp only [f1, f2, f3, f4]) | (go_at_call 16; refine (chain (classes_any _) HB).mono ?_; rintro e w' ⟨rfl, HB⟩) | (go_at_call 14; refine (chain (awake_yes _) HB).mono ?_; rintro e w' ⟨rfl, HB⟩))
        all_goals (go_ret; exact ⟨rfl, HB.out⟩)
    · have f1 : sizeR 6 = .tuple #[.int .i64 19, .int .i64 0] := rfl
      have f2 : slotsR 6 = .tuple #[.int .i64 3, .int .i64 0] := rfl
      clear h hc1 hc2
      by_cases hA : 0 ≤ a ∧ a < 3
      · by_cases hB : 0 ≤ b ∧ b < 3
        · have f3 : placeR 6 a = .tuple #[.int .i64 (2 + a * 19), .int .i64 0] := placeR_in ⟨by omega, hA.1, hA.2⟩
          have f4 : placeR 6 b = .tuple #[.int .i64 (2 + b * 19), .int .i64 0] := placeR_in ⟨by omega, hB.1, hB.2⟩
          obtain ⟨hA1, hA2⟩ := hA
          obtain ⟨hB1, hB2⟩ := hB
          have e1 : ((a == b) == (2 + a * 19 == 2 + b * 19)) = true := by
            by_cases hab : a = b
            · subst hab; simp
            · have x1 : (a == b) = false := by simp [hab]
              have x2 : (2 + a * 19 == 2 + b * 19) = false := by simp; omega
              rw [x1, x2]; rfl
          have d1 : decide (2 + a * 19 < 2) = false := by simp; omega
          have d2 : decide (64 < 2 + a * 19 + 19) = false := by simp; omega
          by_cases hab : b ≤ a
          · have d3 : decide (b ≤ a) = true := by simp; omega
            by_cases hba : a ≤ b
            · have d4 : decide (a ≤ b) = true := by simp; omega
              go_enter Try.func8, Try.ntmps8
              have HB := Lib.hid (Below.refl w.heap.size w)
              go_wp2_with (first | (go_at_call 10; refine (chain (of_any _ _) HB).mono ?_; rintro e w' ⟨rfl, HB⟩; try simp only [f1, f2, f3, f4]) | (go_at_call 11; refine (chain (refOf_any _ _) HB).mono ?_; rintro e w' ⟨rfl, HB⟩; try simp only [f1, f2, f3, f4]) | (go_at_call 12; refine (chain (pages_any _ _) HB).mono ?_; rintro e w' ⟨rfl, HB⟩; try simp only [f1, f2, f3, f4]) | (go_at_call 13; refine (chain (refPages_any _ _) HB).mono ?_; rintro e w' ⟨rfl, HB⟩; try simp only [f1, f2, f3, f4]) | (go_at_call 15; refine (chain (size_any _ _) HB).mono ?_; rintro e w' ⟨rfl, HB⟩; try simp only [f1, f2, f3, f4]) | (go_at_call 18; refine (chain (slots_any _ _) HB).mono ?_; rintro e w' ⟨rfl, HB⟩; try simp only [f1, f2, f3, f4]) | (go_at_call 19; refine (chain (refSlots_any _ _) HB).mono ?_; rintro e w' ⟨rfl, HB⟩; try simp only [f1, f2, f3, f4]) | (go_at_call 20; refine (chain (place_any _ _ _ (by omega) (by omega)) HB).mono ?_; rintro e w' ⟨rfl, HB⟩; try simp only [f1, f2, f3, f4]) | (go_at_call 16; refine (chain (classes_any _) HB).mono ?_; rintro e w' ⟨rfl, HB⟩) | (go_at_call 14; refine (chain (awake_yes _) HB).mono ?_; rintro e w' ⟨rfl, HB⟩))
              all_goals (go_ret; exact ⟨rfl, HB.out⟩)
            · have d4 : decide (a ≤ b) = false := by simp; omega
              have d5 : decide (2 + b * 19 + 19 ≤ 2 + a * 19) = true := by simp; omega
              go_enter Try.func8, Try.ntmps8
              have HB := Lib.hid (Below.refl w.heap.size w)
              go_wp2_with (first | (go_at_call 10; refine (chain (of_any _ _) HB).mono ?_; rintro e w' ⟨rfl, HB⟩; try simp only [f1, f2, f3, f4]) | (go_at_call 11; refine (chain (refOf_any _ _) HB).mono ?_; rintro e w' ⟨rfl, HB⟩; try simp only [f1, f2, f3, f4]) | (go_at_call 12; refine (chain (pages_any _ _) HB).mono ?_; rintro e w' ⟨rfl, HB⟩; try simp only [f1, f2, f3, f4]) | (go_at_call 13; refine (chain (refPages_any _ _) HB).mono ?_; rintro e w' ⟨rfl, HB⟩; try simp only [f1, f2, f3, f4]) | (go_at_call 15; refine (chain (size_any _ _) HB).mono ?_; rintro e w' ⟨rfl, HB⟩; try simp only [f1, f2, f3, f4]) | (go_at_call 18; refine (chain (slots_any _ _) HB).mono ?_; rintro e w' ⟨rfl, HB⟩; try simp only [f1, f2, f3, f4]) | (go_at_call 19; refine (chain (refSlots_any _ _) HB).mono ?_; rintro e w' ⟨rfl, HB⟩; try simp only [f1, f2, f3, f4]) | (go_at_call 20; refine (chain (place_any _ _ _ (by omega) (by omega)) HB).mono ?_; rintro e w' ⟨rfl, HB⟩; try simp only [f1, f2, f3, f4]) | (go_at_call 16; refine (chain (classes_any _) HB).mono ?_; rintro e w' ⟨rfl, HB⟩) | (go_at_call 14; refine (chain (awake_yes _) HB).mono ?_; rintro e w' ⟨rfl, HB⟩))
              all_goals (go_ret; exact ⟨rfl, HB.out⟩)
          · have d3 : decide (b ≤ a) = false := by simp; omega
            have d4 : decide (a ≤ b) = true := by simp; omega
            have d5 : decide (2 + a * 19 + 19 ≤ 2 + b * 19) = true := by simp; omega
            go_enter Try.func8, Try.ntmps8
            have HB := Lib.hid (Below.refl w.heap.size w)
            go_wp2_with (first | (go_at_call 10; refine (chain (of_any _ _) HB).mono ?_; rintro e w' ⟨rfl, HB⟩; try simp only [f1, f2, f3, f4]) | (go_at_call 11; refine (chain (refOf_any _ _) HB).mono ?_; rintro e w' ⟨rfl, HB⟩; try simp only [f1, f2, f3, f4]) | (go_at_call 12; refine (chain (pages_any _ _) HB).mono ?_; rintro e w' ⟨rfl, HB⟩; try simp only [f1, f2, f3, f4]) | (go_at_call 13; refine (chain (refPages_any _ _) HB).mono ?_; rintro e w' ⟨rfl, HB⟩; try simp only [f1, f2, f3, f4]) | (go_at_call 15; refine (chain (size_any _ _) HB).mono ?_; rintro e w' ⟨rfl, HB⟩; try simp only [f1, f2, f3, f4]) | (go_at_call 18; refine (chain (slots_any _ _) HB).mono ?_; rintro e w' ⟨rfl, HB⟩; try simp only [f1, f2, f3, f4]) | (go_at_call 19; refine (chain (refSlots_any _ _) HB).mono ?_; rintro e w' ⟨rfl, HB⟩; try simp only [f1, f2, f3, f4]) | (go_at_call 20; refine (chain (place_any _ _ _ (by omega) (by omega)) HB).mono ?_; rintro e w' ⟨rfl, HB⟩; try simp only [f1, f2, f3, f4]) | (go_at_call 16; refine (chain (classes_any _) HB).mono ?_; rintro e w' ⟨rfl, HB⟩) | (go_at_call 14; refine (chain (awake_yes _) HB).mono ?_; rintro e w' ⟨rfl, HB⟩))
            all_goals (go_ret; exact ⟨rfl, HB.out⟩)
        · have f3 : placeR 6 a = .tuple #[.int .i64 (2 + a * 19), .int .i64 0] := placeR_in ⟨by omega, hA.1, hA.2⟩
          have f4 : placeR 6 b = .tuple #[.int .i64 0, .int .i64 2] := placeR_out (fun hh => hB hh.2)
          obtain ⟨hA1, hA2⟩ := hA
          clear hB
          go_enter Try.func8, Try.ntmps8
          have HB := Lib.hid (Below.refl w.heap.size w)
          go_wp2_with (first | (go_at_call 10; refine (chain (of_any _ _) HB).mono ?_; rintro e w' ⟨rfl, HB⟩; try simp only [f1, f2, f3, f4]) | (go_at_call 11; refine (chain (refOf_any _ _) HB).mono ?_; rintro e w' ⟨rfl, HB⟩; try simp only [f1, f2, f3, f4]) | (go_at_call 12; refine (chain (pages_any _ _) HB).mono ?_; rintro e w' ⟨rfl, HB⟩; try simp only [f1, f2, f3, f4]) | (go_at_call 13; refine (chain (refPages_any _ _) HB).mono ?_; rintro e w' ⟨rfl, HB⟩; try simp only [f1, f2, f3, f4]) | (go_at_call 15; refine (chain (size_any _ _) HB).mono ?_; rintro e w' ⟨rfl, HB⟩; try simp only [f1, f2, f3, f4]) | (go_at_call 18; refine (chain (slots_any _ _) HB).mono ?_; rintro e w' ⟨rfl, HB⟩; try simp only [f1, f2, f3, f4]) | (go_at_call 19; refine (chain (refSlots_any _ _) HB).mono ?_; rintro e w' ⟨rfl, HB⟩; try simp only [f1, f2, f3, f4]) | (go_at_call 20; refine (chain (place_any _ _ _ (by omega) (by omega)) HB).mono ?_; rintro e w' ⟨rfl, HB⟩; try simp only [f1, f2, f3, f4]) | (go_at_call 16; refine (chain (classes_any _) HB).mono ?_; rintro e w' ⟨rfl, HB⟩) | (go_at_call 14; refine (chain (awake_yes _) HB).mono ?_; rintro e w' ⟨rfl, HB⟩))
          all_goals (go_ret; exact ⟨rfl, HB.out⟩)
      · have f3 : placeR 6 a = .tuple #[.int .i64 0, .int .i64 2] := placeR_out (fun hh => hA hh.2)
        have f4 : ∃ q g, placeR 6 b = .tuple #[.int .i64 q, .int .i64 (g : Nat)] := by unfold placeR; split; exact ⟨_, 0, rfl⟩; exact ⟨_, 2, rfl⟩
        obtain ⟨q, g, f4⟩ := f4
        clear hA
        go_enter Try.func8, Try.ntmps8
        have HB := Lib.hid (Below.refl w.heap.size w)
        go_wp2_with (first | (go_at_call 10; refine (chain (of_any _ _) HB).mono ?_; rintro e w' ⟨rfl, HB⟩; try simp only [f1, f2, f3, f4]) | (go_at_call 11; refine (chain (refOf_any _ _) HB).mono ?_; rintro e w' ⟨rfl, HB⟩; try simp only [f1, f2, f3, f4]) | (go_at_call 12; refine (chain (pages_any _ _) HB).mono ?_; rintro e w' ⟨rfl, HB⟩; try simp only [f1, f2, f3, f4]) | (go_at_call 13; refine (chain (refPages_any _ _) HB).mono ?_; rintro e w' ⟨rfl, HB⟩; try simp only [f1, f2, f3, f4]) | (go_at_call 15; refine (chain (size_any _ _) HB).mono ?_; rintro e w' ⟨rfl, HB⟩; try simp only [f1, f2, f3, f4]) | (go_at_call 18; refine (chain (slots_any _ _) HB).mono ?_; rintro e w' ⟨rfl, HB⟩; try simp only [f1, f2, f3, f4]) | (go_at_call 19; refine (chain (refSlots_any _ _) HB).mono ?_; rintro e w' ⟨rfl, HB⟩; try simp only [f1, f2, f3, f4]) | (go_at_call 20; refine (chain (place_any _ _ _ (by omega) (by omega)) HB).mono ?_; rintro e w' ⟨rfl, HB⟩; try simp only [f1, f2, f3, f4]) | (go_at_call 16; refine (chain (classes_any _) HB).mono ?_; rintro e w' ⟨rfl, HB⟩) | (go_at_call 14; refine (chain (awake_yes _) HB).mono ?_; rintro e w' ⟨rfl, HB⟩))
        all_goals (go_ret; exact ⟨rfl, HB.out⟩)
    · have f1 : sizeR 7 = .tuple #[.int .i64 28, .int .i64 0] := rfl
      have f2 : slotsR 7 = .tuple #[.int .i64 2, .int .i64 0] := rfl
      clear h hc1 hc2
      by_cases hA : 0 ≤ a ∧ a < 2
      · by_cases hB : 0 ≤ b ∧ b < 2
        · have f3 : placeR 7 a = .tuple #[.int .i64 (2 + a * 28), .int .i64 0] := placeR_in ⟨by omega, hA.1, hA.2⟩
          have f4 : placeR 7 b = .tuple #[.int .i64 (2 + b * 28), .int .i64 0] := placeR_in ⟨by omega, hB.1, hB.2⟩
          obtain ⟨hA1, hA2⟩ := hA
          obtain ⟨hB1, hB2⟩ := hB
          have e1 : ((a == b) == (2 + a * 28 == 2 + b * 28)) = true := by
            by_cases hab : a = b
            · subst hab; simp
            · have x1 : (a == b) = false := by simp [hab]
              have x2 : (2 + a * 28 == 2 + b * 28) = false := by simp; omega
              rw [x1, x2]; rfl
          have d1 : decide (2 + a * 28 < 2) = false := by simp; omega
          have d2 : decide (64 < 2 + a * 28 + 28) = false := by simp; omega
          by_cases hab : b ≤ a
          · have d3 : decide (b ≤ a) = true := by simp; omega
            by_cases hba : a ≤ b
            · have d4 : decide (a ≤ b) = true := by simp; omega
              go_enter Try.func8, Try.ntmps8
              have HB := Lib.hid (Below.refl w.heap.size w)
              go_wp2_with (first | (go_at_call 10; refine (chain (of_any _ _) HB).mono ?_; rintro e w' ⟨rfl, HB⟩; try simp only [f1, f2, f3, f4]) | (go_at_call 11; refine (chain (refOf_any _ _) HB).mono ?_; rintro e w' ⟨rfl, HB⟩; try simp only [f1, f2, f3, f4]) | (go_at_call 12; refine (chain (pages_any _ _) HB).mono ?_; rintro e w' ⟨rfl, HB⟩; try simp only [f1, f2, f3, f4]) | (go_at_call 13; refine (chain (refPages_any _ _) HB).mono ?_; rintro e w' ⟨rfl, HB⟩; try simp only [f1, f2, f3, f4]) | (go_at_call 15; refine (chain (size_any _ _) HB).mono ?_; rintro e w' ⟨rfl, HB⟩; try simp only [f1, f2, f3, f4]) | (go_at_call 18; refine (chain (slots_any _ _) HB).mono ?_; rintro e w' ⟨rfl, HB⟩; try simp only [f1, f2, f3, f4]) | (go_at_call 19; refine (chain (refSlots_any _ _) HB).mono ?_; rintro e w' ⟨rfl, HB⟩; try simp only [f1, f2, f3, f4]) | (go_at_call 20; refine (chain (place_any _ _ _ (by omega) (by omega)) HB).mono ?_; rintro e w' ⟨rfl, HB⟩; try simp only [f1, f2, f3, f4]) | (go_at_call 16; refine (chain (classes_any _) HB).mono ?_; rintro e w' ⟨rfl, HB⟩) | (go_at_call 14; refine (chain (awake_yes _) HB).mono ?_; rintro e w' ⟨rfl, HB⟩))
              all_goals (go_ret; exact ⟨rfl, HB.out⟩)
            · have d4 : decide (a ≤ b) = false := by simp; omega
              have d5 : decide (2 + b * 28 + 28 ≤ 2 + a * 28) = true := by simp; omega
              go_enter Try.func8, Try.ntmps8
              have HB := Lib.hid (Below.refl w.heap.size w)
              go_wp2_with (first | (go_at_call 10; refine (chain (of_any _ _) HB).mono ?_; rintro e w' ⟨rfl, HB⟩; try simp only [f1, f2, f3, f4]) | (go_at_call 11; refine (chain (refOf_any _ _) HB).mono ?_; rintro e w' ⟨rfl, HB⟩; try simp only [f1, f2, f3, f4]) | (go_at_call 12; refine (chain (pages_any _ _) HB).mono ?_; rintro e w' ⟨rfl, HB⟩; try simp only [f1, f2, f3, f4]) | (go_at_call 13; refine (chain (refPages_any _ _) HB).mono ?_; rintro e w' ⟨rfl, HB⟩; try simp only [f1, f2, f3, f4]) | (go_at_call 15; refine (chain (size_any _ _) HB).mono ?_; rintro e w' ⟨rfl, HB⟩; try simp only [f1, f2, f3, f4]) | (go_at_call 18; refine (chain (slots_any _ _) HB).mono ?_; rintro e w' ⟨rfl, HB⟩; try simp only [f1, f2, f3, f4]) | (go_at_call 19; refine (chain (refSlots_any _ _) HB).mono ?_; rintro e w' ⟨rfl, HB⟩; try simp only [f1, f2, f3, f4]) | (go_at_call 20; refine (chain (place_any _ _ _ (by omega) (by omega)) HB).mono ?_; rintro e w' ⟨rfl, HB⟩; try simp only [f1, f2, f3, f4]) | (go_at_call 16; refine (chain (classes_any _) HB).mono ?_; rintro e w' ⟨rfl, HB⟩) | (go_at_call 14; refine (chain (awake_yes _) HB).mono ?_; rintro e w' ⟨rfl, HB⟩))
              all_goals (go_ret; exact ⟨rfl, HB.out⟩)
          · have d3 : decide (b ≤ a) = false := by simp; omega
            have d4 : decide (a ≤ b) = true := by simp; omega
            have d5 : decide (2 + a * 28 + 28 ≤ 2 + b * 28) = true := by simp; omega
            go_enter Try.func8, Try.ntmps8
            have HB := Lib.hid (Below.refl w.heap.size w)
            go_wp2_with (first | (go_at_call 10; refine (chain (of_any _ _) HB).mono ?_; rintro e w' ⟨rfl, HB⟩; try simp only [f1, f2, f3, f4]) | (go_at_call 11; refine (chain (refOf_any _ _) HB).mono ?_; rintro e w' ⟨rfl, HB⟩; try simp only [f1, f2, f3, f4]) | (go_at_call 12; refine (chain (pages_any _ _) HB).mono ?_; rintro e w' ⟨rfl, HB⟩; try simp only [f1, f2, f3, f4]) | (go_at_call 13; refine (chain (refPages_any _ _) HB).mono ?_; rintro e w' ⟨rfl, HB⟩; try simp only [f1, f2, f3, f4]) | (go_at_call 15; refine (chain (size_any _ _) HB).mono ?_; rintro e w' ⟨rfl, HB⟩; try simp only [f1, f2, f3, f4]) | (go_at_call 18; refine (chain (slots_any _ _) HB).mono ?_; rintro e w' ⟨rfl, HB⟩; try simp only [f1, f2, f3, f4]) | (go_at_call 19; refine (chain (refSlots_any _ _) HB).mono ?_; rintro e w' ⟨rfl, HB⟩; try simp only [f1, f2, f3, f4]) | (go_at_call 20; refine (chain (place_any _ _ _ (by omega) (by omega)) HB).mono ?_; rintro e w' ⟨rfl, HB⟩; try simp only [f1, f2, f3, f4]) | (go_at_call 16; refine (chain (classes_any _) HB).mono ?_; rintro e w' ⟨rfl, HB⟩) | (go_at_call 14; refine (chain (awake_yes _) HB).mono ?_; rintro e w' ⟨rfl, HB⟩))
            all_goals (go_ret; exact ⟨rfl, HB.out⟩)
        · have f3 : placeR 7 a = .tuple #[.int .i64 (2 + a * 28), .int .i64 0] := placeR_in ⟨by omega, hA.1, hA.2⟩
          have f4 : placeR 7 b = .tuple #[.int .i64 0, .int .i64 2] := placeR_out (fun hh => hB hh.2)
          obtain ⟨hA1, hA2⟩ := hA
          clear hB
          go_enter Try.func8, Try.ntmps8
          have HB := Lib.hid (Below.refl w.heap.size w)
          go_wp2_with (first | (go_at_call 10; refine (chain (of_any _ _) HB).mono ?_; rintro e w' ⟨rfl, HB⟩; try simp only [f1, f2, f3, f4]) | (go_at_call 11; refine (chain (refOf_any _ _) HB).mono ?_; rintro e w' ⟨rfl, HB⟩; try simp only [f1, f2, f3, f4]) | (go_at_call 12; refine (chain (pages_any _ _) HB).mono ?_; rintro e w' ⟨rfl, HB⟩; try simp only [f1, f2, f3, f4]) | (go_at_call 13; refine (chain (refPages_any _ _) HB).mono ?_; rintro e w' ⟨rfl, HB⟩; try simp only [f1, f2, f3, f4]) | (go_at_call 15; refine (chain (size_any _ _) HB).mono ?_; rintro e w' ⟨rfl, HB⟩; try simp only [f1, f2, f3, f4]) | (go_at_call 18; refine (chain (slots_any _ _) HB).mono ?_; rintro e w' ⟨rfl, HB⟩; try simp only [f1, f2, f3, f4]) | (go_at_call 19; refine (chain (refSlots_any _ _) HB).mono ?_; rintro e w' ⟨rfl, HB⟩; try simp only [f1, f2, f3, f4]) | (go_at_call 20; refine (chain (place_any _ _ _ (by omega) (by omega)) HB).mono ?_; rintro e w' ⟨rfl, HB⟩; try simp only [f1, f2, f3, f4]) | (go_at_call 16; refine (chain (classes_any _) HB).mono ?_; rintro e w' ⟨rfl, HB⟩) | (go_at_call 14; refine (chain (awake_yes _) HB).mono ?_; rintro e w' ⟨rfl, HB⟩))
          all_goals (go_ret; exact ⟨rfl, HB.out⟩)
      · have f3 : placeR 7 a = .tuple #[.int .i64 0, .int .i64 2] := placeR_out (fun hh => hA hh.2)
        have f4 : ∃ q g, placeR 7 b = .tuple #[.int .i64 q, .int .i64 (g : Nat)] := by unfold placeR; split; exact ⟨_, 0, rfl⟩; exact ⟨_, 2, rfl⟩
        obtain ⟨q, g, f4⟩ := f4
        clear hA
        go_enter Try.func8, Try.ntmps8
        have HB := Lib.hid (Below.refl w.heap.size w)
        go_wp2_with (first | (go_at_call 10; refine (chain (of_any _ _) HB).mono ?_; rintro e w' ⟨rfl, HB⟩; try simp only [f1, f2, f3, f4]) | (go_at_call 11; refine (chain (refOf_any _ _) HB).mono ?_; rintro e w' ⟨rfl, HB⟩; try simp only [f1, f2, f3, f4]) | (go_at_call 12; refine (chain (pages_any _ _) HB).mono ?_; rintro e w' ⟨rfl, HB⟩; try simp only [f1, f2, f3, f4]) | (go_at_call 13; refine (chain (refPages_any _ _) HB).mono ?_; rintro e w' ⟨rfl, HB⟩; try simp only [f1, f2, f3, f4]) | (go_at_call 15; refine (chain (size_any _ _) HB).mono ?_; rintro e w' ⟨rfl, HB⟩; try simp only [f1, f2, f3, f4]) | (go_at_call 18; refine (chain (slots_any _ _) HB).mono ?_; rintro e w' ⟨rfl, HB⟩; try simp only [f1, f2, f3, f4]) | (go_at_call 19; refine (chain (refSlots_any _ _) HB).mono ?_; rintro e w' ⟨rfl, HB⟩; try simp only [f1, f2, f3, f4]) | (go_at_call 20; refine (chain (place_any _ _ _ (by omega) (by omega)) HB).mono ?_; rintro e w' ⟨rfl, HB⟩; try simp only [f1, f2, f3, f4]) | (go_at_call 16; refine (chain (classes_any _) HB).mono ?_; rintro e w' ⟨rfl, HB⟩) | (go_at_call 14; refine (chain (awake_yes _) HB).mono ?_; rintro e w' ⟨rfl, HB⟩))
        all_goals (go_ret; exact ⟨rfl, HB.out⟩)
  · have f1 := sizeR_out h
    have f3 : placeR c a = .tuple #[.int .i64 0, .int .i64 2] := placeR_out (fun hh => h hh.1)
    have f4 : placeR c b = .tuple #[.int .i64 0, .int .i64 2] := placeR_out (fun hh => h hh.1)
    clear h
    go_enter Try.func8, Try.ntmps8
    have HB := Lib.hid (Below.refl w.heap.size w)
    go_wp2_with (first | (go_at_call 10; refine (chain (of_any _ _) HB).mono ?_; rintro e w' ⟨rfl, HB⟩; try simp only [f1, f3, f4]) | (go_at_call 11; refine (chain (refOf_any _ _) HB).mono ?_; rintro e w' ⟨rfl, HB⟩; try simp only [f1, f3, f4]) | (go_at_call 12; refine (chain (pages_any _ _) HB).mono ?_; rintro e w' ⟨rfl, HB⟩; try simp only [f1, f3, f4]) | (go_at_call 13; refine (chain (refPages_any _ _) HB).mono ?_; rintro e w' ⟨rfl, HB⟩; try simp only [f1, f3, f4]) | (go_at_call 15; refine (chain (size_any _ _) HB).mono ?_; rintro e w' ⟨rfl, HB⟩; try simp only [f1, f3, f4]) | (go_at_call 18; refine (chain (slots_any _ _) HB).mono ?_; rintro e w' ⟨rfl, HB⟩; try simp only [f1, f3, f4]) | (go_at_call 19; refine (chain (refSlots_any _ _) HB).mono ?_; rintro e w' ⟨rfl, HB⟩; try simp only [f1, f3, f4]) | (go_at_call 20; refine (chain (place_any _ _ _ (by omega) (by omega)) HB).mono ?_; rintro e w' ⟨rfl, HB⟩; try simp only [f1, f3, f4]) | (go_at_call 16; refine (chain (classes_any _) HB).mono ?_; rintro e w' ⟨rfl, HB⟩) | (go_at_call 14; refine (chain (awake_yes _) HB).mono ?_; rintro e w' ⟨rfl, HB⟩))
    all_goals (go_ret; exact ⟨rfl, HB.out⟩)
end Go.Proofs.Ytokbglpmkekdnaa

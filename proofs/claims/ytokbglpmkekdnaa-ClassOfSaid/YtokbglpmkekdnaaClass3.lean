/- The walks of the seven statements of layer 3. -/
import Derived.Test.YtokbglpmkekdnaaClass2
set_option linter.unusedVariables false
set_option linter.unusedSimpArgs false
namespace Go.Proofs.Ytokbglpmkekdnaa
open Go.RowKit Go.Shelf
theorem chain {f : FuncId} {args : Array Value} {w0 w : World} {v : Value} (h : Calls Try.prog f args w fun e w' => e = .returned v ∧ Below w.heap.size w w') (hb : Hid (Below w0.heap.size w0 w)) :
    Calls Try.prog f args w fun e w' => e = .returned v ∧ Hid (Below w0.heap.size w0 w') :=
  h.mono fun _ _ ⟨he, h2⟩ => ⟨he, Lib.hid (hb.out.trans (h2.mono hb.out.size))⟩
theorem awake_yes (w : World) : Calls Try.prog 14 #[] w fun e w' => e = .returned (.bool true) ∧ Below w.heap.size w w' := awake_any w
set_option maxHeartbeats 4000000 in
set_option maxRecDepth 100000 in
theorem classOf_walk (n : Int) (w : World) (hn1 : -9223372036854775808 ≤ n) (hn2 : n ≤ 9223372036854775807) : Calls Try.prog 3 #[.int .i64 n] w (Yes w) := by
  have hof : ∃ x b e, ofR n = .tuple #[.int .i64 (x : Nat), .bool b, .int .i64 (e : Nat)] ∧ ∃ p, pagesR n = .tuple #[.int .i64 p, .int .i64 (e : Nat)] := ⟨_, _, _, rfl, _, rfl⟩
  obtain ⟨x, b, e, hof, p, hpg⟩ := hof
  have hb : (b == b) = true := by simp
  have hx : (x == x) = true := by simp
  go_enter Try.func3, Try.ntmps3
  have HB := Lib.hid (Below.refl w.heap.size w)
  go_wp2_with (first | (go_at_call 10; refine (chain (of_any _ _) HB).mono ?_; rintro e w' ⟨rfl, HB⟩; try simp only [hof, hpg]) | (go_at_call 11; refine (chain (refOf_any _ _) HB).mono ?_; rintro e w' ⟨rfl, HB⟩; try simp only [hof, hpg]) | (go_at_call 12; refine (chain (pages_any _ _) HB).mono ?_; rintro e w' ⟨rfl, HB⟩; try simp only [hof, hpg]) | (go_at_call 13; refine (chain (refPages_any _ _) HB).mono ?_; rintro e w' ⟨rfl, HB⟩; try simp only [hof, hpg]) | (go_at_call 15; refine (chain (size_any _ _) HB).mono ?_; rintro e w' ⟨rfl, HB⟩; try simp only [hof, hpg]) | (go_at_call 18; refine (chain (slots_any _ _) HB).mono ?_; rintro e w' ⟨rfl, HB⟩; try simp only [hof, hpg]) | (go_at_call 19; refine (chain (refSlots_any _ _) HB).mono ?_; rintro e w' ⟨rfl, HB⟩; try simp only [hof, hpg]) | (go_at_call 20; refine (chain (place_any _ _ _ (by omega) (by omega)) HB).mono ?_; rintro e w' ⟨rfl, HB⟩; try simp only [hof, hpg]) | (go_at_call 16; refine (chain (classes_any _) HB).mono ?_; rintro e w' ⟨rfl, HB⟩) | (go_at_call 14; refine (chain (awake_yes _) HB).mono ?_; rintro e w' ⟨rfl, HB⟩))
  all_goals (go_ret; exact ⟨rfl, HB.out⟩)
set_option maxHeartbeats 4000000 in
set_option maxRecDepth 100000 in
theorem classAll_walk (c : Int) (w : World) (hc1 : -9223372036854775808 ≤ c) (hc2 : c ≤ 9223372036854775807) : Calls Try.prog 6 #[.int .i64 c] w (Yes w) := by
  by_cases h : 0 ≤ c ∧ c < 8
  · rcases class_cases h with rfl | rfl | rfl | rfl | rfl | rfl | rfl | rfl
    · have f1 : sizeR 0 = .tuple #[.int .i64 2, .int .i64 0] := rfl
      have f2 : sizeR 1 = .tuple #[.int .i64 3, .int .i64 0] := rfl
      clear h hc1 hc2
      go_enter Try.func6, Try.ntmps6
      have HB := Lib.hid (Below.refl w.heap.size w)
      go_wp2_with (first | (go_at_call 10; refine (chain (of_any _ _) HB).mono ?_; rintro e w' ⟨rfl, HB⟩; try simp only [f1, f2]) | (go_at_call 11; refine (chain (refOf_any _ _) HB).mono ?_; rintro e w' ⟨rfl, HB⟩; try simp only [f1, f2]) | (go_at_call 12; refine (chain (pages_any _ _) HB).mono ?_; rintro e w' ⟨rfl, HB⟩; try simp only [f1, f2]) | (go_at_call 13; refine (chain (refPages_any _ _) HB).mono ?_; rintro e w' ⟨rfl, HB⟩; try simp only [f1, f2]) | (go_at_call 15; refine (chain (size_any _ _) HB).mono ?_; rintro e w' ⟨rfl, HB⟩; try simp only [f1, f2]) | (go_at_call 18; refine (chain (slots_any _ _) HB).mono ?_; rintro e w' ⟨rfl, HB⟩; try simp only [f1, f2]) | (go_at_call 19; refine (chain (refSlots_any _ _) HB).mono ?_; rintro e w' ⟨rfl, HB⟩; try simp only [f1, f2]) | (go_at_call 20; refine (chain (place_any _ _ _ (by omega) (by omega)) HB).mono ?_; rintro e w' ⟨rfl, HB⟩; try simp only [f1, f2]) | (go_at_call 16; refine (chain (classes_any _) HB).mono ?_; rintro e w' ⟨rfl, HB⟩) | (go_at_call 14; refine (chain (awake_yes _) HB).mono ?_; rintro e w' ⟨rfl, HB⟩))
      all_goals (go_ret; exact ⟨rfl, HB.out⟩)
    · have f1 : sizeR 1 = .tuple #[.int .i64 3, .int .i64 0] := rfl
      have f2 : sizeR 2 = .tuple #[.int .i64 4, .int .i64 0] := rfl
      clear h hc1 hc2
      go_enter Try.func6, Try.ntmps6
      have HB := Lib.hid (Below.refl w.heap.size w)
      go_wp2_with (first | (go_at_call 10; refine (chain (of_any _ _) HB).mono ?_; rintro e w' ⟨rfl, HB⟩; try simp only [f1, f2]) | (go_at_call 11; refine (chain (refOf_any _ _) HB).mono ?_; rintro e w' ⟨rfl, HB⟩; try simp only [f1, f2]) | (go_at_call 12; refine (chain (pages_any _ _) HB).mono ?_; rintro e w' ⟨rfl, HB⟩; try simp only [f1, f2]) | (go_at_call 13; refine (chain (refPages_any _ _) HB).mono ?_; rintro e w' ⟨rfl, HB⟩; try simp only [f1, f2]) | (go_at_call 15; refine (chain (size_any _ _) HB).mono ?_; rintro e w' ⟨rfl, HB⟩; try simp only [f1, f2]) | (go_at_call 18; refine (chain (slots_any _ _) HB).mono ?_; rintro e w' ⟨rfl, HB⟩; try simp only [f1, f2]) | (go_at_call 19; refine (chain (refSlots_any _ _) HB).mono ?_; rintro e w' ⟨rfl, HB⟩; try simp only [f1, f2]) | (go_at_call 20; refine (chain (place_any _ _ _ (by omega) (by omega)) HB).mono ?_; rintro e w' ⟨rfl, HB⟩; try simp only [f1, f2]) | (go_at_call 16; refine (chain (classes_any _) HB).mono ?_; rintro e w' ⟨rfl, HB⟩) | (go_at_call 14; refine (chain (awake_yes _) HB).mono ?_; rintro e w' ⟨rfl, HB⟩))
      all_goals (go_ret; exact ⟨rfl, HB.out⟩)
    · have f1 : sizeR 2 = .tuple #[.int .i64 4, .int .i64 0] := rfl
      have f2 : sizeR 3 = .tuple #[.int .i64 6, .int .i64 0] := rfl
      clear h hc1 hc2
      go_enter Try.func6, Try.ntmps6
      have HB := Lib.hid (Below.refl w.heap.size w)
      go_wp2_with (first | (go_at_call 10; refine (chain (of_any _ _) HB).mono ?_; rintro e w' ⟨rfl, HB⟩; try simp only [f1, f2]) | (go_at_call 11; refine (chain (refOf_any _ _) HB).mono ?_; rintro e w' ⟨rfl, HB⟩; try simp only [f1, f2]) | (go_at_call 12; refine (chain (pages_any _ _) HB).mono ?_; rintro e w' ⟨rfl, HB⟩; try simp only [f1, f2]) | (go_at_call 13; refine (chain (refPages_any _ _) HB).mono ?_; rintro e w' ⟨rfl, HB⟩; try simp only [f1, f2]) | (go_at_call 15; refine (chain (size_any _ _) HB).mono ?_; rintro e w' ⟨rfl, HB⟩; try simp only [f1, f2]) | (go_at_call 18; refine (chain (slots_any _ _) HB).mono ?_; rintro e w' ⟨rfl, HB⟩; try simp only [f1, f2]) | (go_at_call 19; refine (chain (refSlots_any _ _) HB).mono ?_; rintro e w' ⟨rfl, HB⟩; try simp only [f1, f2]) | (go_at_call 20; refine (chain (place_any _ _ _ (by omega) (by omega)) HB).mono ?_; rintro e w' ⟨rfl, HB⟩; try simp only [f1, f2]) | (go_at_call 16; refine (chain (classes_any _) HB).mono ?_; rintro e w' ⟨rfl, HB⟩) | (go_at_call 14; refine (chain (awake_yes _) HB).mono ?_; rintro e w' ⟨rfl, HB⟩))
      all_goals (go_ret; exact ⟨rfl, HB.out⟩)
    · have f1 : sizeR 3 = .tuple #[.int .i64 6, .int .i64 0] := rfl
      have f2 : sizeR 4 = .tuple #[.int .i64 9, .int .i64 0] := rfl
      clear h hc1 hc2
      go_enter Try.func6, Try.ntmps6
      have HB := Lib.hid (Below.refl w.heap.size w)
      go_wp2_with (first | (go_at_call 10; refine (chain (of_any _ _) HB).mono ?_; rintro e w' ⟨rfl, HB⟩; try simp only [f1, f2]) | (go_at_call 11; refine (chain (refOf_any _ _) HB).mono ?_; rintro e w' ⟨rfl, HB⟩; try simp only [f1, f2]) | (go_at_call 12; refine (chain (pages_any _ _) HB).mono ?_; rintro e w' ⟨rfl, HB⟩; try simp only [f1, f2]) | (go_at_call 13; refine (chain (refPages_any _ _) HB).mono ?_; rintro e w' ⟨rfl, HB⟩; try simp only [f1, f2]) | (go_at_call 15; refine (chain (size_any _ _) HB).mono ?_; rintro e w' ⟨rfl, HB⟩; try simp only [f1, f2]) | (go_at_call 18; refine (chain (slots_any _ _) HB).mono ?_; rintro e w' ⟨rfl, HB⟩; try simp only [f1, f2]) | (go_at_call 19; refine (chain (refSlots_any _ _) HB).mono ?_; rintro e w' ⟨rfl, HB⟩; try simp only [f1, f2]) | (go_at_call 20; refine (chain (place_any _ _ _ (by omega) (by omega)) HB).mono ?_; rintro e w' ⟨rfl, HB⟩; try simp only [f1, f2]) | (go_at_call 16; refine (chain (classes_any _) HB).mono ?_; rintro e w' ⟨rfl, HB⟩) | (go_at_call 14; refine (chain (awake_yes _) HB).mono ?_; rintro e w' ⟨rfl, HB⟩))
      all_goals (go_ret; exact ⟨rfl, HB.out⟩)
    · have f1 : sizeR 4 = .tuple #[.int .i64 9, .int .i64 0] := rfl
      have f2 : sizeR 5 = .tuple #[.int .i64 13, .int .i64 0] := rfl
      clear h hc1 hc2
      go_enter Try.func6, Try.ntmps6
      have HB := Lib.hid (Below.refl w.heap.size w)
      go_wp2_with (first | (go_at_call 10; refine (chain (of_any _ _) HB).mono ?_; rintro e w' ⟨rfl, HB⟩; try simp only [f1, f2]) | (go_at_call 11; refine (chain (refOf_any _ _) HB).mono ?_; rintro e w' ⟨rfl, HB⟩; try simp only [f1, f2]) | (go_at_call 12; refine (chain (pages_any _ _) HB).mono ?_; rintro e w' ⟨rfl, HB⟩; try simp only [f1, f2]) | (go_at_call 13; refine (chain (refPages_any _ _) HB).mono ?_; rintro e w' ⟨rfl, HB⟩; try simp only [f1, f2]) | (go_at_call 15; refine (chain (size_any _ _) HB).mono ?_; rintro e w' ⟨rfl, HB⟩; try simp only [f1, f2]) | (go_at_call 18; refine (chain (slots_any _ _) HB).mono ?_; rintro e w' ⟨rfl, HB⟩; try simp only [f1, f2]) | (go_at_call 19; refine (chain (refSlots_any _ _) HB).mono ?_; rintro e w' ⟨rfl, HB⟩; try simp only [f1, f2]) | (go_at_call 20; refine (chain (place_any _ _ _ (by omega) (by omega)) HB).mono ?_; rintro e w' ⟨rfl, HB⟩; try simp only [f1, f2]) | (go_at_call 16; refine (chain (classes_any _) HB).mono ?_; rintro e w' ⟨rfl, HB⟩) | (go_at_call 14; refine (chain (awake_yes _) HB).mono ?_; rintro e w' ⟨rfl, HB⟩))
      all_goals (go_ret; exact ⟨rfl, HB.out⟩)
    · have f1 : sizeR 5 = .tuple #[.int .i64 13, .int .i64 0] := rfl
      have f2 : sizeR 6 = .tuple #[.int .i64 19, .int .i64 0] := rfl
      clear h hc1 hc2
      go_enter Try.func6, Try.ntmps6
      have HB := Lib.hid (Below.refl w.heap.size w)
      go_wp2_with (first | (go_at_call 10; refine (chain (of_any _ _) HB).mono ?_; rintro e w' ⟨rfl, HB⟩; try simp only [f1, f2]) | (go_at_call 11; refine (chain (refOf_any _ _) HB).mono ?_; rintro e w' ⟨rfl, HB⟩; try simp only [f1, f2]) | (go_at_call 12; refine (chain (pages_any _ _) HB).mono ?_; rintro e w' ⟨rfl, HB⟩; try simp only [f1, f2]) | (go_at_call 13; refine (chain (refPages_any _ _) HB).mono ?_; rintro e w' ⟨rfl, HB⟩; try simp only [f1, f2]) | (go_at_call 15; refine (chain (size_any _ _) HB).mono ?_; rintro e w' ⟨rfl, HB⟩; try simp only [f1, f2]) | (go_at_call 18; refine (chain (slots_any _ _) HB).mono ?_; rintro e w' ⟨rfl, HB⟩; try simp only [f1, f2]) | (go_at_call 19; refine (chain (refSlots_any _ _) HB).mono ?_; rintro e w' ⟨rfl, HB⟩; try simp only [f1, f2]) | (go_at_call 20; refine (chain (place_any _ _ _ (by omega) (by omega)) HB).mono ?_; rintro e w' ⟨rfl, HB⟩; try simp only [f1, f2]) | (go_at_call 16; refine (chain (classes_any _) HB).mono ?_; rintro e w' ⟨rfl, HB⟩) | (go_at_call 14; refine (chain (awake_yes _) HB).mono ?_; rintro e w' ⟨rfl, HB⟩))
      all_goals (go_ret; exact ⟨rfl, HB.out⟩)
    · have f1 : sizeR 6 = .tuple #[.int .i64 19, .int .i64 0] := rfl
      have f2 : sizeR 7 = .tuple #[.int .i64 28, .int .i64 0] := rfl
      clear h hc1 hc2
      go_enter Try.func6, Try.ntmps6
      have HB := Lib.hid (Below.refl w.heap.size w)
      go_wp2_with (first | (go_at_call 10; refine (chain (of_any _ _) HB).mono ?_; rintro e w' ⟨rfl, HB⟩; try simp only [f1, f2]) | (go_at_call 11; refine (chain (refOf_any _ _) HB).mono ?_; rintro e w' ⟨rfl, HB⟩; try simp only [f1, f2]) | (go_at_call 12; refine (chain (pages_any _ _) HB).mono ?_; rintro e w' ⟨rfl, HB⟩; try simp only [f1, f2]) | (go_at_call 13; refine (chain (refPages_any _ _) HB).mono ?_; rintro e w' ⟨rfl, HB⟩; try simp only [f1, f2]) | (go_at_call 15; refine (chain (size_any _ _) HB).mono ?_; rintro e w' ⟨rfl, HB⟩; try simp only [f1, f2]) | (go_at_call 18; refine (chain (slots_any _ _) HB).mono ?_; rintro e w' ⟨rfl, HB⟩; try simp only [f1, f2]) | (go_at_call 19; refine (chain (refSlots_any _ _) HB).mono ?_; rintro e w' ⟨rfl, HB⟩; try simp only [f1, f2]) | (go_at_call 20; refine (chain (place_any _ _ _ (by omega) (by omega)) HB).mono ?_; rintro e w' ⟨rfl, HB⟩; try simp only [f1, f2]) | (go_at_call 16; refine (chain (classes_any _) HB).mono ?_; rintro e w' ⟨rfl, HB⟩) | (go_at_call 14; refine (chain (awake_yes _) HB).mono ?_; rintro e w' ⟨rfl, HB⟩))
      all_goals (go_ret; exact ⟨rfl, HB.out⟩)
    · have f1 : sizeR 7 = .tuple #[.int .i64 28, .int .i64 0] := rfl
      have f2 : sizeR 8 = .tuple #[.int .i64 0, .int .i64 2] := rfl
      clear h hc1 hc2
      go_enter Try.func6, Try.ntmps6
      have HB := Lib.hid (Below.refl w.heap.size w)
      go_wp2_with (first | (go_at_call 10; refine (chain (of_any _ _) HB).mono ?_; rintro e w' ⟨rfl, HB⟩; try simp only [f1, f2]) | (go_at_call 11; refine (chain (refOf_any _ _) HB).mono ?_; rintro e w' ⟨rfl, HB⟩; try simp only [f1, f2]) | (go_at_call 12; refine (chain (pages_any _ _) HB).mono ?_; rintro e w' ⟨rfl, HB⟩; try simp only [f1, f2]) | (go_at_call 13; refine (chain (refPages_any _ _) HB).mono ?_; rintro e w' ⟨rfl, HB⟩; try simp only [f1, f2]) | (go_at_call 15; refine (chain (size_any _ _) HB).mono ?_; rintro e w' ⟨rfl, HB⟩; try simp only [f1, f2]) | (go_at_call 18; refine (chain (slots_any _ _) HB).mono ?_; rintro e w' ⟨rfl, HB⟩; try simp only [f1, f2]) | (go_at_call 19; refine (chain (refSlots_any _ _) HB).mono ?_; rintro e w' ⟨rfl, HB⟩; try simp only [f1, f2]) | (go_at_call 20; refine (chain (place_any _ _ _ (by omega) (by omega)) HB).mono ?_; rintro e w' ⟨rfl, HB⟩; try simp only [f1, f2]) | (go_at_call 16; refine (chain (classes_any _) HB).mono ?_; rintro e w' ⟨rfl, HB⟩) | (go_at_call 14; refine (chain (awake_yes _) HB).mono ?_; rintro e w' ⟨rfl, HB⟩))
      all_goals (go_ret; exact ⟨rfl, HB.out⟩)
  · have f1 := sizeR_out h
    have f2 : ∀ k, ∃ t e, sizeR k = .tuple #[.int .i64 (t : Nat), .int .i64 (e : Nat)] := fun k => by unfold sizeR; split; exact ⟨_, 0, rfl⟩; exact ⟨0, 2, rfl⟩
    by_cases hl : c < 0
    · have d1 : decide (c < 0) = true := by simp; omega
      obtain ⟨t, e, f3⟩ := f2 (c + 1)
      clear h
      go_enter Try.func6, Try.ntmps6
      have HB := Lib.hid (Below.refl w.heap.size w)
      go_wp2_with (first | (go_at_call 10; refine (chain (of_any _ _) HB).mono ?_; rintro e w' ⟨rfl, HB⟩; try simp only [f1, f3]) | (go_at_call 11; refine (chain (refOf_any _ _) HB).mono ?_; rintro e w' ⟨rfl, HB⟩; try simp only [f1, f3]) | (go_at_call 12; refine (chain (pages_any _ _) HB).mono ?_; rintro e w' ⟨rfl, HB⟩; try simp only [f1, f3]) | (go_at_call 13; refine (chain (refPages_any _ _) HB).mono ?_; rintro e w' ⟨rfl, HB⟩; try simp only [f1, f3]) | (go_at_call 15; refine (chain (size_any _ _) HB).mono ?_; rintro e w' ⟨rfl, HB⟩; try simp only [f1, f3]) | (go_at_call 18; refine (chain (slots_any _ _) HB).mono ?_; rintro e w' ⟨rfl, HB⟩; try simp only [f1, f3]) | (go_at_call 19; refine (chain (refSlots_any _ _) HB).mono ?_; rintro e w' ⟨rfl, HB⟩; try simp only [f1, f3]) | (go_at_call 20; refine (chain (place_any _ _ _ (by omega) (by omega)) HB).mono ?_; rintro e w' ⟨rfl, HB⟩; try simp only [f1, f3]) | (go_at_call 16; refine (chain (classes_any _) HB).mono ?_; rintro e w' ⟨rfl, HB⟩) | (go_at_call 14; refine (chain (awake_yes _) HB).mono ?_; rintro e w' ⟨rfl, HB⟩))
      all_goals (go_ret; exact ⟨rfl, HB.out⟩)
    · have d1 : decide (c < 0) = false := by simp; omega
      have d2 : decide ((8 : Int) ≤ c) = true := by simp; omega
      by_cases hm : c = 9223372036854775807
      · subst hm
        obtain ⟨t, e, f3⟩ := f2 (wrap64 9223372036854775808)
        clear h
        go_enter Try.func6, Try.ntmps6
        have HB := Lib.hid (Below.refl w.heap.size w)
        go_wp2_with (first | (go_at_call 10; refine (chain (of_any _ _) HB).mono ?_; rintro e w' ⟨rfl, HB⟩; try simp only [f1, f3]) | (go_at_call 11; refine (chain (refOf_any _ _) HB).mono ?_; rintro e w' ⟨rfl, HB⟩; try simp only [f1, f3]) | (go_at_call 12; refine (chain (pages_any _ _) HB).mono ?_; rintro e w' ⟨rfl, HB⟩; try simp only [f1, f3]) | (go_at_call 13; refine (chain (refPages_any _ _) HB).mono ?_; rintro e w' ⟨rfl, HB⟩; try simp only [f1, f3]) | (go_at_call 15; refine (chain (size_any _ _) HB).mono ?_; rintro e w' ⟨rfl, HB⟩; try simp only [f1, f3]) | (go_at_call 18; refine (chain (slots_any _ _) HB).mono ?_; rintro e w' ⟨rfl, HB⟩; try simp only [f1, f3]) | (go_at_call 19; refine (chain (refSlots_any _ _) HB).mono ?_; rintro e w' ⟨rfl, HB⟩; try simp only [f1, f3]) | (go_at_call 20; refine (chain (place_any _ _ _ (by omega) (by omega)) HB).mono ?_; rintro e w' ⟨rfl, HB⟩; try simp only [f1, f3]) | (go_at_call 16; refine (chain (classes_any _) HB).mono ?_; rintro e w' ⟨rfl, HB⟩) | (go_at_call 14; refine (chain (awake_yes _) HB).mono ?_; rintro e w' ⟨rfl, HB⟩))
        all_goals (go_ret; exact ⟨rfl, HB.out⟩)
      · obtain ⟨t, e, f3⟩ := f2 (c + 1)
        clear h
        go_enter Try.func6, Try.ntmps6
        have HB := Lib.hid (Below.refl w.heap.size w)
        go_wp2_with (first | (go_at_call 10; refine (chain (of_any _ _) HB).mono ?_; rintro e w' ⟨rfl, HB⟩; try simp only [f1, f3]) | (go_at_call 11; refine (chain (refOf_any _ _) HB).mono ?_; rintro e w' ⟨rfl, HB⟩; try simp only [f1, f3]) | (go_at_call 12; refine (chain (pages_any _ _) HB).mono ?_; rintro e w' ⟨rfl, HB⟩; try simp only [f1, f3]) | (go_at_call 13; refine (chain (refPages_any _ _) HB).mono ?_; rintro e w' ⟨rfl, HB⟩; try simp only [f1, f3]) | (go_at_call 15; refine (chain (size_any _ _) HB).mono ?_; rintro e w' ⟨rfl, HB⟩; try simp only [f1, f3]) | (go_at_call 18; refine (chain (slots_any _ _) HB).mono ?_; rintro e w' ⟨rfl, HB⟩; try simp only [f1, f3]) | (go_at_call 19; refine (chain (refSlots_any _ _) HB).mono ?_; rintro e w' ⟨rfl, HB⟩; try simp only [f1, f3]) | (go_at_call 20; refine (chain (place_any _ _ _ (by omega) (by omega)) HB).mono ?_; rintro e w' ⟨rfl, HB⟩; try simp only [f1, f3]) | (go_at_call 16; refine (chain (classes_any _) HB).mono ?_; rintro e w' ⟨rfl, HB⟩) | (go_at_call 14; refine (chain (awake_yes _) HB).mono ?_; rintro e w' ⟨rfl, HB⟩))
        all_goals (go_ret; exact ⟨rfl, HB.out⟩)
set_option maxHeartbeats 4000000 in
set_option maxRecDepth 100000 in
theorem classFits_walk (n : Int) (w : World) (hn1 : -9223372036854775808 ≤ n) (hn2 : n ≤ 9223372036854775807) : Calls Try.prog 4 #[.int .i64 n] w (Yes w) := by
  by_cases hn : 1 ≤ n ∧ n ≤ 4000
  · obtain ⟨hn1, hn2⟩ := hn
    by_cases h28 : n ≤ 28
    · have f3 : pagesR n = .tuple #[.int .i64 1, .int .i64 0] := by simp only [pagesR, pagesN, ofE]; rw [if_pos ⟨hn1, hn2⟩, if_pos h28, if_pos ⟨hn1, hn2⟩]; rfl
      have hcl : n ≤ 2 ∨ (2 < n ∧ n ≤ 3) ∨ (3 < n ∧ n ≤ 4) ∨ (4 < n ∧ n ≤ 6) ∨ (6 < n ∧ n ≤ 9) ∨ (9 < n ∧ n ≤ 13) ∨ (13 < n ∧ n ≤ 19) ∨ 19 < n := by omega
      rcases hcl with hc | ⟨hl, hc⟩ | ⟨hl, hc⟩ | ⟨hl, hc⟩ | ⟨hl, hc⟩ | ⟨hl, hc⟩ | ⟨hl, hc⟩ | hl
      · have f1 : ofR n = .tuple #[.int .i64 0, .bool true, .int .i64 0] := ofR_small (k := 0) ⟨hn1, hn2⟩ h28 (by unfold cls; (repeat' split) <;> omega)
        have f2 : sizeR 0 = .tuple #[.int .i64 2, .int .i64 0] := rfl
        have d1 : decide (n ≤ 2) = true := by simp; omega
        have d2 : decide (0 < n) = true := by simp; omega
        clear h28
        go_enter Try.func4, Try.ntmps4
        have HB := Lib.hid (Below.refl w.heap.size w)
        go_wp2_with (first | (go_at_call 10; refine (chain (of_any _ _) HB).mono ?_; rintro e w' ⟨rfl, HB⟩; try simp only [f1, f2, f3]) | (go_at_call 11; refine (chain (refOf_any _ _) HB).mono ?_; rintro e w' ⟨rfl, HB⟩; try simp only [f1, f2, f3]) | (go_at_call 12; refine (chain (pages_any _ _) HB).mono ?_; rintro e w' ⟨rfl, HB⟩; try simp only [f1, f2, f3]) | (go_at_call 13; refine (chain (refPages_any _ _) HB).mono ?_; rintro e w' ⟨rfl, HB⟩; try simp only [f1, f2, f3]) | (go_at_call 15; refine (chain (size_any _ _) HB).mono ?_; rintro e w' ⟨rfl, HB⟩; try simp only [f1, f2, f3]) | (go_at_call 18; refine (chain (slots_any _ _) HB).mono ?_; rintro e w' ⟨rfl, HB⟩; try simp only [f1, f2, f3]) | (go_at_call 19; refine (chain (refSlots_any _ _) HB).mono ?_; rintro e w' ⟨rfl, HB⟩; try simp only [f1, f2, f3]) | (go_at_call 20; refine (chain (place_any _ _ _ (by omega) (by omega)) HB).mono ?_; rintro e w' ⟨rfl, HB⟩; try simp only [f1, f2, f3]) | (go_at_call 16; refine (chain (classes_any _) HB).mono ?_; rintro e w' ⟨rfl, HB⟩) | (go_at_call 14; refine (chain (awake_yes _) HB).mono ?_; rintro e w' ⟨rfl, HB⟩))
        all_goals (go_ret; exact ⟨rfl, HB.out⟩)
      · have f1 : ofR n = .tuple #[.int .i64 1, .bool true, .int .i64 0] := ofR_small (k := 1) ⟨hn1, hn2⟩ h28 (by unfold cls; (repeat' split) <;> omega)
        have f2 : sizeR 1 = .tuple #[.int .i64 3, .int .i64 0] := rfl
        have f4 : sizeR 0 = .tuple #[.int .i64 2, .int .i64 0] := rfl
        have d1 : decide (n ≤ 3) = true := by simp; omega
        have d2 : decide (2 < n) = true := by simp; omega
        have d3 : decide (3 < 2 * n) = true := by simp; omega
        clear h28
        go_enter Try.func4, Try.ntmps4
        have HB := Lib.hid (Below.refl w.heap.size w)
        go_wp2_with (first | (go_at_call 10; refine (chain (of_any _ _) HB).mono ?_; rintro e w' ⟨rfl, HB⟩; try simp only [f1, f2, f3, f4]) | (go_at_call 11; refine (chain (refOf_any _ _) HB).mono ?_; rintro e w' ⟨rfl, HB⟩; try simp only [f1, f2, f3, f4]) | (go_at_call 12; refine (chain (pages_any _ _) HB).mono ?_; rintro e w' ⟨rfl, HB⟩; try simp only [f1, f2, f3, f4]) | (go_at_call 13; refine (chain (refPages_any _ _) HB).mono ?_; rintro e w' ⟨rfl, HB⟩; try simp only [f1, f2, f3, f4]) | (go_at_call 15; refine (chain (size_any _ _) HB).mono ?_; rintro e w' ⟨rfl, HB⟩; try simp only [f1, f2, f3, f4]) | (go_at_call 18; refine (chain (slots_any _ _) HB).mono ?_; rintro e w' ⟨rfl, HB⟩; try simp only [f1, f2, f3, f4]) | (go_at_call 19; refine (chain (refSlots_any _ _) HB).mono ?_; rintro e w' ⟨rfl, HB⟩; try simp only [f1, f2, f3, f4]) | (go_at_call 20; refine (chain (place_any _ _ _ (by omega) (by omega)) HB).mono ?_; rintro e w' ⟨rfl, HB⟩; try simp only [f1, f2, f3, f4]) | (go_at_call 16; refine (chain (classes_any _) HB).mono ?_; rintro e w' ⟨rfl, HB⟩) | (go_at_call 14; refine (chain (awake_yes _) HB).mono ?_; rintro e w' ⟨rfl, HB⟩))
        all_goals (go_ret; exact ⟨rfl, HB.out⟩)
      · have f1 : ofR n = .tuple #[.int .i64 2, .bool true, .int .i64 0] := ofR_small (k := 2) ⟨hn1, hn2⟩ h28 (by unfold cls; (repeat' split) <;> omega)
        have f2 : sizeR 2 = .tuple #[.int .i64 4, .int .i64 0] := rfl
        have f4 : sizeR 1 = .tuple #[.int .i64 3, .int .i64 0] := rfl
        have d1 : decide (n ≤ 4) = true := by simp; omega
        have d2 : decide (3 < n) = true := by simp; omega
        have d3 : decide (4 < 2 * n) = true := by simp; omega
        clear h28
        go_enter Try.func4, Try.ntmps4
        have HB := Lib.hid (Below.refl w.heap.size w)
        go_wp2_with (first | (go_at_call 10; refine (chain (of_any _ _) HB).mono ?_; rintro e w' ⟨rfl, HB⟩; try simp only [f1, f2, f3, f4]) | (go_at_call 11; refine (chain (refOf_any _ _) HB).mono ?_; rintro e w' ⟨rfl, HB⟩; try simp only [f1, f2, f3, f4]) | (go_at_call 12; refine (chain (pages_any _ _) HB).mono ?_; rintro e w' ⟨rfl, HB⟩; try simp only [f1, f2, f3, f4]) | (go_at_call 13; refine (chain (refPages_any _ _) HB).mono ?_; rintro e w' ⟨rfl, HB⟩; try simp only [f1, f2, f3, f4]) | (go_at_call 15; refine (chain (size_any _ _) HB).mono ?_; rintro e w' ⟨rfl, HB⟩; try simp only [f1, f2, f3, f4]) | (go_at_call 18; refine (chain (slots_any _ _) HB).mono ?_; rintro e w' ⟨rfl, HB⟩; try simp only [f1, f2, f3, f4]) | (go_at_call 19; refine (chain (refSlots_any _ _) HB).mono ?_; rintro e w' ⟨rfl, HB⟩; try simp only [f1, f2, f3, f4]) | (go_at_call 20; refine (chain (place_any _ _ _ (by omega) (by omega)) HB).mono ?_; rintro e w' ⟨rfl, HB⟩; try simp only [f1, f2, f3, f4]) | (go_at_call 16; refine (chain (classes_any _) HB).mono ?_; rintro e w' ⟨rfl, HB⟩) | (go_at_call 14; refine (chain (awake_yes _) HB).mono ?_; rintro e w' ⟨rfl, HB⟩))
        all_goals (go_ret; exact ⟨rfl, HB.out⟩)
      · have f1 : ofR n = .tuple #[.int .i64 3, .bool true, .int .i64 0] := ofR_small (k := 3) ⟨hn1, hn2⟩ h28 (by unfold cls; (repeat' split) <;> omega)
        have f2 : sizeR 3 = .tuple #[.int .i64 6, .int .i64 0] := rfl
        have f4 : sizeR 2 = .tuple #[.int .i64 4, .int .i64 0] := rfl
        have d1 : decide (n ≤ 6) = true := by simp; omega
        have d2 : decide (4 < n) = true := by simp; omega
        have d3 : decide (6 < 2 * n) = true := by simp; omega
        clear h28
        go_enter Try.func4, Try.ntmps4
        have HB := Lib.hid (Below.refl w.heap.size w)
        go_wp2_with (first | (go_at_call 10; refine (chain (of_any _ _) HB).mono ?_; rintro e w' ⟨rfl, HB⟩; try simp only [f1, f2, f3, f4]) | (go_at_call 11; refine (chain (refOf_any _ _) HB).mono ?_; rintro e w' ⟨rfl, HB⟩; try simp only [f1, f2, f3, f4]) | (go_at_call 12; refine (chain (pages_any _ _) HB).mono ?_; rintro e w' ⟨rfl, HB⟩; try simp only [f1, f2, f3, f4]) | (go_at_call 13; refine (chain (refPages_any _ _) HB).mono ?_; rintro e w' ⟨rfl, HB⟩; try simp only [f1, f2, f3, f4]) | (go_at_call 15; refine (chain (size_any _ _) HB).mono ?_; rintro e w' ⟨rfl, HB⟩; try simp only [f1, f2, f3, f4]) | (go_at_call 18; refine (chain (slots_any _ _) HB).mono ?_; rintro e w' ⟨rfl, HB⟩; try simp only [f1, f2, f3, f4]) | (go_at_call 19; refine (chain (refSlots_any _ _) HB).mono ?_; rintro e w' ⟨rfl, HB⟩; try simp only [f1, f2, f3, f4]) | (go_at_call 20; refine (chain (place_any _ _ _ (by omega) (by omega)) HB).mono ?_; rintro e w' ⟨rfl, HB⟩; try simp only [f1, f2, f3, f4]) | (go_at_call 16; refine (chain (classes_any _) HB).mono ?_; rintro e w' ⟨rfl, HB⟩) | (go_at_call 14; refine (chain (awake_yes _) HB).mono ?_; rintro e w' ⟨rfl, HB⟩))
        all_goals (go_ret; exact ⟨rfl, HB.out⟩)
      · have f1 : ofR n = .tuple #[.int .i64 4, .bool true, .int .i64 0] := ofR_small (k := 4) ⟨hn1, hn2⟩ h28 (by unfold cls; (repeat' split) <;> omega)
        have f2 : sizeR 4 = .tuple #[.int .i64 9, .int .i64 0] := rfl
        have f4 : sizeR 3 = .tuple #[.int .i64 6, .int .i64 0] := rfl
        have d1 : decide (n ≤ 9) = true := by simp; omega
        have d2 : decide (6 < n) = true := by simp; omega
        have d3 : decide (9 < 2 * n) = true := by simp; omega
        clear h28
        go_enter Try.func4, Try.ntmps4
        have HB := Lib.hid (Below.refl w.heap.size w)
        go_wp2_with (first | (go_at_call 10; refine (chain (of_any _ _) HB).mono ?_; rintro e w' ⟨rfl, HB⟩; try simp only [f1, f2, f3, f4]) | (go_at_call 11; refine (chain (refOf_any _ _) HB).mono ?_; rintro e w' ⟨rfl, HB⟩; try simp only [f1, f2, f3, f4]) | (go_at_call 12; refine (chain (pages_any _ _) HB).mono ?_; rintro e w' ⟨rfl, HB⟩; try simp only [f1, f2, f3, f4]) | (go_at_call 13; refine (chain (refPages_any _ _) HB).mono ?_; rintro e w' ⟨rfl, HB⟩; try simp only [f1, f2, f3, f4]) | (go_at_call 15; refine (chain (size_any _ _) HB).mono ?_; rintro e w' ⟨rfl, HB⟩; try simp only [f1, f2, f3, f4]) | (go_at_call 18; refine (chain (slots_any _ _) HB).mono ?_; rintro e w' ⟨rfl, HB⟩; try simp only [f1, f2, f3, f4]) | (go_at_call 19; refine (chain (refSlots_any _ _) HB).mono ?_; rintro e w' ⟨rfl, HB⟩; try simp only [f1, f2, f3, f4]) | (go_at_call 20; refine (chain (place_any _ _ _ (by omega) (by omega)) HB).mono ?_; rintro e w' ⟨rfl, HB⟩; try simp only [f1, f2, f3, f4]) | (go_at_call 16; refine (chain (classes_any _) HB).mono ?_; rintro e w' ⟨rfl, HB⟩) | (go_at_call 14; refine (chain (awake_yes _) HB).mono ?_; rintro e w' ⟨rfl, HB⟩))
        all_goals (go_ret; exact ⟨rfl, HB.out⟩)
      · have f1 : ofR n = .tuple #[.int .i64 5, .bool true, .int .i64 0] := ofR_small (k := 5) ⟨hn1, hn2⟩ h28 (by unfold cls; (repeat' split) <;> omega)
        have f2 : sizeR 5 = .tuple #[.int .i64 13, .int .i64 0] := rfl
        have f4 : sizeR 4 = .tuple #[.int .i64 9, .int .i64 0] := rfl
        have d1 : decide (n ≤ 13) = true := by simp; omega
        have d2 : decide (9 < n) = true := by simp; omega
        have d3 : decide (13 < 2 * n) = true := by simp; omega
        clear h28
        go_enter Try.func4, Try.ntmps4
        have HB := Lib.hid (Below.refl w.heap.size w)
        go_wp2_with (first | (go_at_call 10; refine (chain (of_any _ _) HB).mono ?_; rintro e w' ⟨rfl, HB⟩; try simp only [f1, f2, f3, f4]) | (go_at_call 11; refine (chain (refOf_any _ _) HB).mono ?_; rintro e w' ⟨rfl, HB⟩; try simp only [f1, f2, f3, f4]) | (go_at_call 12; refine (chain (pages_any _ _) HB).mono ?_; rintro e w' ⟨rfl, HB⟩; try simp only [f1, f2, f3, f4]) | (go_at_call 13; refine (chain (refPages_any _ _) HB).mono ?_; rintro e w' ⟨rfl, HB⟩; try simp only [f1, f2, f3, f4]) | (go_at_call 15; refine (chain (size_any _ _) HB).mono ?_; rintro e w' ⟨rfl, HB⟩; try simp only [f1, f2, f3, f4]) | (go_at_call 18; refine (chain (slots_any _ _) HB).mono ?_; rintro e w' ⟨rfl, HB⟩; try simp only [f1, f2, f3, f4]) | (go_at_call 19; refine (chain (refSlots_any _ _) HB).mono ?_; rintro e w' ⟨rfl, HB⟩; try simp only [f1, f2, f3, f4]) | (go_at_call 20; refine (chain (place_any _ _ _ (by omega) (by omega)) HB).mono ?_; rintro e w' ⟨rfl, HB⟩; try simp only [f1, f2, f3, f4]) | (go_at_call 16; refine (chain (classes_any _) HB).mono ?_; rintro e w' ⟨rfl, HB⟩) | (go_at_call 14; refine (chain (awake_yes _) HB).mono ?_; rintro e w' ⟨rfl, HB⟩))
        all_goals (go_ret; exact ⟨rfl, HB.out⟩)
      · have f1 : ofR n = .tuple #[.int .i64 6, .bool true, .int .i64 0] := ofR_small (k := 6) ⟨hn1, hn2⟩ h28 (by unfold cls; (repeat' split) <;> omega)
        have f2 : sizeR 6 = .tuple #[.int .i64 19, .int .i64 0] := rfl
        have f4 : sizeR 5 = .tuple #[.int .i64 13, .int .i64 0] := rfl
        have d1 : decide (n ≤ 19) = true := by simp; omega
        have d2 : decide (13 < n) = true := by simp; omega
        have d3 : decide (19 < 2 * n) = true := by simp; omega
        clear h28
        go_enter Try.func4, Try.ntmps4
        have HB := Lib.hid (Below.refl w.heap.size w)
        go_wp2_with (first | (go_at_call 10; refine (chain (of_any _ _) HB).mono ?_; rintro e w' ⟨rfl, HB⟩; try simp only [f1, f2, f3, f4]) | (go_at_call 11; refine (chain (refOf_any _ _) HB).mono ?_; rintro e w' ⟨rfl, HB⟩; try simp only [f1, f2, f3, f4]) | (go_at_call 12; refine (chain (pages_any _ _) HB).mono ?_; rintro e w' ⟨rfl, HB⟩; try simp only [f1, f2, f3, f4]) | (go_at_call 13; refine (chain (refPages_any _ _) HB).mono ?_; rintro e w' ⟨rfl, HB⟩; try simp only [f1, f2, f3, f4]) | (go_at_call 15; refine (chain (size_any _ _) HB).mono ?_; rintro e w' ⟨rfl, HB⟩; try simp only [f1, f2, f3, f4]) | (go_at_call 18; refine (chain (slots_any _ _) HB).mono ?_; rintro e w' ⟨rfl, HB⟩; try simp only [f1, f2, f3, f4]) | (go_at_call 19; refine (chain (refSlots_any _ _) HB).mono ?_; rintro e w' ⟨rfl, HB⟩; try simp only [f1, f2, f3, f4]) | (go_at_call 20; refine (chain (place_any _ _ _ (by omega) (by omega)) HB).mono ?_; rintro e w' ⟨rfl, HB⟩; try simp only [f1, f2, f3, f4]) | (go_at_call 16; refine (chain (classes_any _) HB).mono ?_; rintro e w' ⟨rfl, HB⟩) | (go_at_call 14; refine (chain (awake_yes _) HB).mono ?_; rintro e w' ⟨rfl, HB⟩))
        all_goals (go_ret; exact ⟨rfl, HB.out⟩)
      · have f1 : ofR n = .tuple #[.int .i64 7, .bool true, .int .i64 0] := ofR_small (k := 7) ⟨hn1, hn2⟩ h28 (by unfold cls; (repeat' split) <;> omega)
        have f2 : sizeR 7 = .tuple #[.int .i64 28, .int .i64 0] := rfl
        have f4 : sizeR 6 = .tuple #[.int .i64 19, .int .i64 0] := rfl
        have d1 : decide (n ≤ 28) = true := by simp; omega
        have d2 : decide (19 < n) = true := by simp; omega
        have d3 : decide (28 < 2 * n) = true := by simp; omega
        clear h28
        go_enter Try.func4, Try.ntmps4
        have HB := Lib.hid (Below.refl w.heap.size w)
        go_wp2_with (first | (go_at_call 10; refine (chain (of_any _ _) HB).mono ?_; rintro e w' ⟨rfl, HB⟩; try simp only [f1, f2, f3, f4]) | (go_at_call 11; refine (chain (refOf_any _ _) HB).mono ?_; rintro e w' ⟨rfl, HB⟩; try simp only [f1, f2, f3, f4]) | (go_at_call 12; refine (chain (pages_any _ _) HB).mono ?_; rintro e w' ⟨rfl, HB⟩; try simp only [f1, f2, f3, f4]) | (go_at_call 13; refine (chain (refPages_any _ _) HB).mono ?_; rintro e w' ⟨rfl, HB⟩; try simp only [f1, f2, f3, f4]) | (go_at_call 15; refine (chain (size_any _ _) HB).mono ?_; rintro e w' ⟨rfl, HB⟩; try simp only [f1, f2, f3, f4]) | (go_at_call 18; refine (chain (slots_any _ _) HB).mono ?_; rintro e w' ⟨rfl, HB⟩; try simp only [f1, f2, f3, f4]) | (go_at_call 19; refine (chain (refSlots_any _ _) HB).mono ?_; rintro e w' ⟨rfl, HB⟩; try simp only [f1, f2, f3, f4]) | (go_at_call 20; refine (chain (place_any _ _ _ (by omega) (by omega)) HB).mono ?_; rintro e w' ⟨rfl, HB⟩; try simp only [f1, f2, f3, f4]) | (go_at_call 16; refine (chain (classes_any _) HB).mono ?_; rintro e w' ⟨rfl, HB⟩) | (go_at_call 14; refine (chain (awake_yes _) HB).mono ?_; rintro e w' ⟨rfl, HB⟩))
        all_goals (go_ret; exact ⟨rfl, HB.out⟩)
    · have f1 := ofR_big ⟨hn1, hn2⟩ (by omega)
      have f2 : sizeR 7 = .tuple #[.int .i64 28, .int .i64 0] := rfl
      have f3 : pagesR n = .tuple #[.int .i64 ((n + 65) / 64), .int .i64 0] := by simp only [pagesR, pagesN, ofE]; rw [if_pos ⟨hn1, hn2⟩, if_neg h28, if_pos ⟨hn1, hn2⟩]; rfl
      have hp : ∃ p, (n + 65) / 64 = p := ⟨_, rfl⟩
      obtain ⟨p, hp⟩ := hp
      rw [hp] at f3
      have p1 : n + 2 ≤ p * 64 := by omega
      have p2 : (p - 1) * 64 < n + 2 := by omega
      have p3 : 1 ≤ p := by omega
      have p4 : p ≤ 70 := by omega
      have d1 : decide (28 < n) = true := by simp; omega
      have d2 : decide (n + 2 ≤ p * 64) = true := by simp; omega
      have d3 : decide ((p - 1) * 64 < n + 2) = true := by simp; omega
      clear h28 hp
      go_enter Try.func4, Try.ntmps4
      have HB := Lib.hid (Below.refl w.heap.size w)
      go_wp2_with (first | (go_at_call 10; refine (chain (of_any _ _) HB).mono ?_; rintro e w' ⟨rfl, HB⟩; try simp only [f1, f2, f3]) | (go_at_call 11; refine (chain (refOf_any _ _) HB).mono ?_; rintro e w' ⟨rfl, HB⟩; try simp only [f1, f2, f3]) | (go_at_call 12; refine (chain (pages_any _ _) HB).mono ?_; rintro e w' ⟨rfl, HB⟩; try simp only [f1, f2, f3]) | (go_at_call 13; refine (chain (refPages_any _ _) HB).mono ?_; rintro e w' ⟨rfl, HB⟩; try simp only [f1, f2, f3]) | (go_at_call 15; refine (chain (size_any _ _) HB).mono ?_; rintro e w' ⟨rfl, HB⟩; try simp only [f1, f2, f3]) | (go_at_call 18; refine (chain (slots_any _ _) HB).mono ?_; rintro e w' ⟨rfl, HB⟩; try simp only [f1, f2, f3]) | (go_at_call 19; refine (chain (refSlots_any _ _) HB).mono ?_; rintro e w' ⟨rfl, HB⟩; try simp only [f1, f2, f3]) | (go_at_call 20; refine (chain (place_any _ _ _ (by omega) (by omega)) HB).mono ?_; rintro e w' ⟨rfl, HB⟩; try simp only [f1, f2, f3]) | (go_at_call 16; refine (chain (classes_any _) HB).mono ?_; rintro e w' ⟨rfl, HB⟩) | (go_at_call 14; refine (chain (awake_yes _) HB).mono ?_; rintro e w' ⟨rfl, HB⟩))
      all_goals (go_ret; exact ⟨rfl, HB.out⟩)
  · have f1 := ofR_out hn
    have f3 : pagesR n = .tuple #[.int .i64 0, .int .i64 2] := by simp only [pagesR, pagesN, ofE]; rw [if_neg hn, if_neg hn]; rfl
    by_cases hl : n < 1
    · have d1 : decide (n < 1) = true := by simp; omega
      clear hn
      go_enter Try.func4, Try.ntmps4
      have HB := Lib.hid (Below.refl w.heap.size w)
      go_wp2_with (first | (go_at_call 10; refine (chain (of_any _ _) HB).mono ?_; rintro e w' ⟨rfl, HB⟩; try simp only [f1, f3]) | (go_at_call 11; refine (chain (refOf_any _ _) HB).mono ?_; rintro e w' ⟨rfl, HB⟩; try simp only [f1, f3]) | (go_at_call 12; refine (chain (pages_any _ _) HB).mono ?_; rintro e w' ⟨rfl, HB⟩; try simp only [f1, f3]) | (go_at_call 13; refine (chain (refPages_any _ _) HB).mono ?_; rintro e w' ⟨rfl, HB⟩; try simp only [f1, f3]) | (go_at_call 15; refine (chain (size_any _ _) HB).mono ?_; rintro e w' ⟨rfl, HB⟩; try simp only [f1, f3]) | (go_at_call 18; refine (chain (slots_any _ _) HB).mono ?_; rintro e w' ⟨rfl, HB⟩; try simp only [f1, f3]) | (go_at_call 19; refine (chain (refSlots_any _ _) HB).mono ?_; rintro e w' ⟨rfl, HB⟩; try simp only [f1, f3]) | (go_at_call 20; refine (chain (place_any _ _ _ (by omega) (by omega)) HB).mono ?_; rintro e w' ⟨rfl, HB⟩; try simp only [f1, f3]) | (go_at_call 16; refine (chain (classes_any _) HB).mono ?_; rintro e w' ⟨rfl, HB⟩) | (go_at_call 14; refine (chain (awake_yes _) HB).mono ?_; rintro e w' ⟨rfl, HB⟩))
      all_goals (go_ret; exact ⟨rfl, HB.out⟩)
    · have d1 : decide (n < 1) = false := by simp; omega
      have d2 : decide (4000 < n) = true := by simp; omega
      clear hn
      go_enter Try.func4, Try.ntmps4
      have HB := Lib.hid (Below.refl w.heap.size w)
      go_wp2_with (first | (go_at_call 10; refine (chain (of_any _ _) HB).mono ?_; rintro e w' ⟨rfl, HB⟩; try simp only [f1, f3]) | (go_at_call 11; refine (chain (refOf_any _ _) HB).mono ?_; rintro e w' ⟨rfl, HB⟩; try simp only [f1, f3]) | (go_at_call 12; refine (chain (pages_any _ _) HB).mono ?_; rintro e w' ⟨rfl, HB⟩; try simp only [f1, f3]) | (go_at_call 13; refine (chain (refPages_any _ _) HB).mono ?_; rintro e w' ⟨rfl, HB⟩; try simp only [f1, f3]) | (go_at_call 15; refine (chain (size_any _ _) HB).mono ?_; rintro e w' ⟨rfl, HB⟩; try simp only [f1, f3]) | (go_at_call 18; refine (chain (slots_any _ _) HB).mono ?_; rintro e w' ⟨rfl, HB⟩; try simp only [f1, f3]) | (go_at_call 19; refine (chain (refSlots_any _ _) HB).mono ?_; rintro e w' ⟨rfl, HB⟩; try simp only [f1, f3]) | (go_at_call 20; refine (chain (place_any _ _ _ (by omega) (by omega)) HB).mono ?_; rintro e w' ⟨rfl, HB⟩; try simp only [f1, f3]) | (go_at_call 16; refine (chain (classes_any _) HB).mono ?_; rintro e w' ⟨rfl, HB⟩) | (go_at_call 14; refine (chain (awake_yes _) HB).mono ?_; rintro e w' ⟨rfl, HB⟩))
      all_goals (go_ret; exact ⟨rfl, HB.out⟩)
set_option maxHeartbeats 4000000 in
set_option maxRecDepth 100000 in
theorem classGrows_walk (a : Int) (b : Int) (w : World) (ha1 : -9223372036854775808 ≤ a) (ha2 : a ≤ 9223372036854775807) (hb1 : -9223372036854775808 ≤ b) (hb2 : b ≤ 9223372036854775807) : Calls Try.prog 5 #[.int .i64 a, .int .i64 b] w (Yes w) := by
  by_cases ha : a < 1
  · have d1 : decide (a < 1) = true := by simp; omega
    go_enter Try.func5, Try.ntmps5
    have HB := Lib.hid (Below.refl w.heap.size w)
    go_wp2_with (first | (go_at_call 10; refine (chain (of_any _ _) HB).mono ?_; rintro e w' ⟨rfl, HB⟩; try simp only [true_and]) | (go_at_call 11; refine (chain (refOf_any _ _) HB).mono ?_; rintro e w' ⟨rfl, HB⟩; try simp only [true_and]) | (go_at_call 12; refine (chain (pages_any _ _) HB).mono ?_; rintro e w' ⟨rfl, HB⟩; try simp only [true_and]) | (go_at_call 13; refine (chain (refPages_any _ _) HB).mono ?_; rintro e w' ⟨rfl, HB⟩; try simp only [true_and]) | (go_at_call 15; refine (chain (size_any _ _) HB).mono ?_; rintro e w' ⟨rfl, HB⟩; try simp only [true_and]) | (go_at_call 18; refine (chain (slots_any _ _) HB).mono ?_; rintro e w' ⟨rfl, HB⟩; try simp only [true_and]) | (go_at_call 19; refine (chain (refSlots_any _ _) HB).mono ?_; rintro e w' ⟨rfl, HB⟩; try simp only [true_and]) | (go_at_call 20; refine (chain (place_any _ _ _ (by omega) (by omega)) HB).mono ?_; rintro e w' ⟨rfl, HB⟩; try simp only [true_and]) | (go_at_call 16; refine (chain (classes_any _) HB).mono ?_; rintro e w' ⟨rfl, HB⟩) | (go_at_call 14; refine (chain (awake_yes _) HB).mono ?_; rintro e w' ⟨rfl, HB⟩))
    all_goals (go_ret; exact ⟨rfl, HB.out⟩)
  have d1 : decide (a < 1) = false := by simp; omega
  by_cases hb : b < a
  · have d2 : decide (b < a) = true := by simp; omega
    go_enter Try.func5, Try.ntmps5
    have HB := Lib.hid (Below.refl w.heap.size w)
    go_wp2_with (first | (go_at_call 10; refine (chain (of_any _ _) HB).mono ?_; rintro e w' ⟨rfl, HB⟩; try simp only [true_and]) | (go_at_call 11; refine (chain (refOf_any _ _) HB).mono ?_; rintro e w' ⟨rfl, HB⟩; try simp only [true_and]) | (go_at_call 12; refine (chain (pages_any _ _) HB).mono ?_; rintro e w' ⟨rfl, HB⟩; try simp only [true_and]) | (go_at_call 13; refine (chain (refPages_any _ _) HB).mono ?_; rintro e w' ⟨rfl, HB⟩; try simp only [true_and]) | (go_at_call 15; refine (chain (size_any _ _) HB).mono ?_; rintro e w' ⟨rfl, HB⟩; try simp only [true_and]) | (go_at_call 18; refine (chain (slots_any _ _) HB).mono ?_; rintro e w' ⟨rfl, HB⟩; try simp only [true_and]) | (go_at_call 19; refine (chain (refSlots_any _ _) HB).mono ?_; rintro e w' ⟨rfl, HB⟩; try simp only [true_and]) | (go_at_call 20; refine (chain (place_any _ _ _ (by omega) (by omega)) HB).mono ?_; rintro e w' ⟨rfl, HB⟩; try simp only [true_and]) | (go_at_call 16; refine (chain (classes_any _) HB).mono ?_; rintro e w' ⟨rfl, HB⟩) | (go_at_call 14; refine (chain (awake_yes _) HB).mono ?_; rintro e w' ⟨rfl, HB⟩))
    all_goals (go_ret; exact ⟨rfl, HB.out⟩)
  have d2 : decide (b < a) = false := by simp; omega
  by_cases hB : 4000 < b
  · have d3 : decide (4000 < b) = true := by simp; omega
    go_enter Try.func5, Try.ntmps5
    have HB := Lib.hid (Below.refl w.heap.size w)
    go_wp2_with (first | (go_at_call 10; refine (chain (of_any _ _) HB).mono ?_; rintro e w' ⟨rfl, HB⟩; try simp only [true_and]) | (go_at_call 11; refine (chain (refOf_any _ _) HB).mono ?_; rintro e w' ⟨rfl, HB⟩; try simp only [true_and]) | (go_at_call 12; refine (chain (pages_any _ _) HB).mono ?_; rintro e w' ⟨rfl, HB⟩; try simp only [true_and]) | (go_at_call 13; refine (chain (refPages_any _ _) HB).mono ?_; rintro e w' ⟨rfl, HB⟩; try simp only [true_and]) | (go_at_call 15; refine (chain (size_any _ _) HB).mono ?_; rintro e w' ⟨rfl, HB⟩; try simp only [true_and]) | (go_at_call 18; refine (chain (slots_any _ _) HB).mono ?_; rintro e w' ⟨rfl, HB⟩; try simp only [true_and]) | (go_at_call 19; refine (chain (refSlots_any _ _) HB).mono ?_; rintro e w' ⟨rfl, HB⟩; try simp only [true_and]) | (go_at_call 20; refine (chain (place_any _ _ _ (by omega) (by omega)) HB).mono ?_; rintro e w' ⟨rfl, HB⟩; try simp only [true_and]) | (go_at_call 16; refine (chain (classes_any _) HB).mono ?_; rintro e w' ⟨rfl, HB⟩) | (go_at_call 14; refine (chain (awake_yes _) HB).mono ?_; rintro e w' ⟨rfl, HB⟩))
    all_goals (go_ret; exact ⟨rfl, HB.out⟩)
  have d3 : decide (4000 < b) = false := by simp; omega
  have g1 : ∃ m, pagesR a = .tuple #[.int .i64 m, .int .i64 0] ∧ ∃ n, pagesR b = .tuple #[.int .i64 n, .int .i64 0] ∧ m ≤ n := by
    refine ⟨pagesN a, ?_, pagesN b, ?_, ?_⟩
    · simp only [pagesR, ofE]; rw [if_pos (by omega)]; rfl
    · simp only [pagesR, ofE]; rw [if_pos (by omega)]; rfl
    · unfold pagesN; rw [if_pos (show 1 ≤ a ∧ a ≤ 4000 by omega), if_pos (show 1 ≤ b ∧ b ≤ 4000 by omega)]; split <;> split <;> omega
  obtain ⟨m, f1, n, f2, hmn⟩ := g1
  have d4 : decide (m ≤ n) = true := by simp; omega
  by_cases h28 : b ≤ 28
  · have g2 : ∃ x : Nat, ofR a = .tuple #[.int .i64 (x : Nat), .bool true, .int .i64 0] ∧ ∃ y : Nat, ofR b = .tuple #[.int .i64 (y : Nat), .bool true, .int .i64 0] ∧ x ≤ y := by
      refine ⟨cls a, ofR_small (by omega) (by omega) rfl, cls b, ofR_small (by omega) (by omega) rfl, ?_⟩
      unfold cls
      (repeat' split) <;> omega
    obtain ⟨x, f3, y, f4, hxy⟩ := g2
    have d5 : decide (x ≤ y) = true := by simp; omega
    have d6 : decide ((x : Int) ≤ (y : Int)) = true := by simp; omega
    go_enter Try.func5, Try.ntmps5
    have HB := Lib.hid (Below.refl w.heap.size w)
    go_wp2_with (first | (go_at_call 10; refine (chain (of_any _ _) HB).mono ?_; rintro e w' ⟨rfl, HB⟩; try simp only [f1, f2, f3, f4]) | (go_at_call 11; refine (chain (refOf_any _ _) HB).mono ?_; rintro e w' ⟨rfl, HB⟩; try simp only [f1, f2, f3, f4]) | (go_at_call 12; refine (chain (pages_any _ _) HB).mono ?_; rintro e w' ⟨rfl, HB⟩; try simp only [f1, f2, f3, f4]) | (go_at_call 13; refine (chain (refPages_any _ _) HB).mono ?_; rintro e w' ⟨rfl, HB⟩; try simp only [f1, f2, f3, f4]) | (go_at_call 15; refine (chain (size_any _ _) HB).mono ?_; rintro e w' ⟨rfl, HB⟩; try simp only [f1, f2, f3, f4]) | (go_at_call 18; refine (chain (slots_any _ _) HB).mono ?_; rintro e w' ⟨rfl, HB⟩; try simp only [f1, f2, f3, f4]) | (go_at_call 19; refine (chain (refSlots_any _ _) HB).mono ?_; rintro e w' ⟨rfl, HB⟩; try simp only [f1, f2, f3, f4]) | (go_at_call 20; refine (chain (place_any _ _ _ (by omega) (by omega)) HB).mono ?_; rintro e w' ⟨rfl, HB⟩; try simp only [f1, f2, f3, f4]) | (go_at_call 16; refine (chain (classes_any _) HB).mono ?_; rintro e w' ⟨rfl, HB⟩) | (go_at_call 14; refine (chain (awake_yes _) HB).mono ?_; rintro e w' ⟨rfl, HB⟩))
    all_goals (go_ret; exact ⟨rfl, HB.out⟩)
  · have f4 := ofR_big (n := b) (by omega) (by omega)
    have g2 : ∃ (x : Nat) (p : Bool), ofR a = .tuple #[.int .i64 (x : Nat), .bool p, .int .i64 0] := ⟨_, _, by simp only [ofR, ofE]; rw [if_pos (show 1 ≤ a ∧ a ≤ 4000 by omega)]; rfl⟩
    obtain ⟨x, p, f3⟩ := g2
    go_enter Try.func5, Try.ntmps5
    have HB := Lib.hid (Below.refl w.heap.size w)
    go_wp2_with (first | (go_at_call 10; refine (chain (of_any _ _) HB).mono ?_; rintro e w' ⟨rfl, HB⟩; try simp only [f1, f2, f3, f4]) | (go_at_call 11; refine (chain (refOf_any _ _) HB).mono ?_; rintro e w' ⟨rfl, HB⟩; try simp only [f1, f2, f3, f4]) | (go_at_call 12; refine (chain (pages_any _ _) HB).mono ?_; rintro e w' ⟨rfl, HB⟩; try simp only [f1, f2, f3, f4]) | (go_at_call 13; refine (chain (refPages_any _ _) HB).mono ?_; rintro e w' ⟨rfl, HB⟩; try simp only [f1, f2, f3, f4]) | (go_at_call 15; refine (chain (size_any _ _) HB).mono ?_; rintro e w' ⟨rfl, HB⟩; try simp only [f1, f2, f3, f4]) | (go_at_call 18; refine (chain (slots_any _ _) HB).mono ?_; rintro e w' ⟨rfl, HB⟩; try simp only [f1, f2, f3, f4]) | (go_at_call 19; refine (chain (refSlots_any _ _) HB).mono ?_; rintro e w' ⟨rfl, HB⟩; try simp only [f1, f2, f3, f4]) | (go_at_call 20; refine (chain (place_any _ _ _ (by omega) (by omega)) HB).mono ?_; rintro e w' ⟨rfl, HB⟩; try simp only [f1, f2, f3, f4]) | (go_at_call 16; refine (chain (classes_any _) HB).mono ?_; rintro e w' ⟨rfl, HB⟩) | (go_at_call 14; refine (chain (awake_yes _) HB).mono ?_; rintro e w' ⟨rfl, HB⟩))
    all_goals (go_ret; exact ⟨rfl, HB.out⟩)
end Go.Proofs.Ytokbglpmkekdnaa

/- The walk of awake: some answers that the document fixes. -/
import Derived.Test.YtiilapdkehplbaaCompare
set_option linter.unusedVariables false
namespace Go.Proofs.Ytiilapdkehplbaa
open Go.RowKit
theorem u64s_new (w : World) (l : List Nat) : U64s (w.alloc (.cells (nums l).toArray 37)) (some ⟨w.heap.size, 0, none⟩) l := by
  refine .inr ⟨_, _, rfl, by simp, fun j hj => ?_⟩
  have := cell_of_row (w.alloc (.cells (nums l).toArray 37)) w.heap.size (0 + j) (nums l).toArray 37 (0, 0) (heap_alloc_new w _)
  rw [this]
  simp [nums, hj]
theorem U64s.alloc {w : World} {A : Option Addr} {l : List Nat} (h : U64s w A l) (o : Obj) : U64s (w.alloc o) A l := h.below ((Below.refl _ w).alloc (Nat.le_refl _) o)
def Yes (w : World) (e : Ending) (w' : World) : Prop := e = .returned (.bool true) ∧ Below w.heap.size w w'
theorem lt_of_all {l : List Nat} (h : ∀ x ∈ l, x < 18446744073709551616) (j : Nat) : l[j]?.getD 0 < 18446744073709551616 := by
  by_cases hj : j < l.length
  · rw [List.getElem?_eq_getElem hj]; exact h _ (List.getElem_mem hj)
  · rw [List.getElem?_eq_none (by omega)]; simp
def abcL : List Nat := [3, 7017280021047803904]
theorem abc_words : wordsL [97, 98, 99] = abcL := by decide
theorem one_no : ¬ isText [1, 1] := by decide
theorem awake_cmp (w : World) : Calls Try.prog 17 #[.string ⟨#[97, 98]⟩, .string ⟨#[97, 98, 99]⟩] w fun e w' => e = .returned (.int .i64 (-1)) ∧ w = w' := cmp_any ⟨#[97, 98]⟩ ⟨#[97, 98, 99]⟩ w
set_option maxRecDepth 100000 in
theorem awake_any (w : World) : Calls Try.prog 10 #[] w (Yes w) := by
  have hsz : (⟨#[97, 98, 99]⟩ : ByteArray).size ≤ 9223372036854775807 := by decide
  go_enter Try.func10, Try.ntmps10
  go_wp2_with fail
  refine ((words_all ⟨#[97, 98, 99]⟩ w hsz).1).mono ?_
  rintro e w1 ⟨hb1, ⟨_, A, c, rfl, hu⟩ | ⟨hbad, _⟩⟩
  · have hu' : U64s w1 A abcL := hu
    have hlen : (wordsL [97, 98, 99]).length = 2 := by decide
    have hsz1 := hb1.size
    have HB := Lib.hid hb1
    clear hb1 hu
    rw [show (⟨#[97, 98, 99]⟩ : ByteArray).data.toList = [97, 98, 99] from rfl, hlen]
    go_wp2_with fail
    refine ((of_any (some ⟨w1.heap.size, 0, none⟩) 2 2 [1, 1] _ rfl (by decide) (u64s_new w1 [1, 1]) (lt_of_all (by decide))).1).mono ?_
    rintro e w2 ⟨rfl, hb2⟩
    rw [ofR_no one_no]
    have HB2 := Lib.hid (HB.out.trans ((((Below.refl _ w1).alloc (Nat.le_refl _) _).trans (hb2.mono (by simp))).mono hsz1))
    have hu2 : U64s w2 A abcL := (hu'.alloc _).below hb2
    have hsz2 := HB2.out.size
    clear hb2 hu' hlen hsz1
    go_wp2_with fail
    have hsame := same_any A (some ⟨w2.heap.size, 0, none⟩) c 2 abcL abcL (w2.alloc (.cells (nums abcL).toArray 37)) (by decide) (by decide) (hu2.alloc _) (u64s_new w2 abcL)
    rw [decide_eq_true (rfl : abcL = abcL)] at hsame
    have hS := Lib.hid hsame
    clear hsame hu2
    refine (hS.out).mono ?_
    rintro e w3 ⟨rfl, d, rfl⟩
    go_wp2_with (go_at_call 17; refine (awake_cmp _).mono ?_; rintro e w' ⟨rfl, rfl⟩)
    go_ret
    exact ⟨rfl, HB2.out.trans (((Below.refl _ w2).alloc (Nat.le_refl _) _).trans ((drewN_below _ d).mono (by simp))|>.mono hsz2)⟩
  · exact absurd hbad (by decide)
end Go.Proofs.Ytiilapdkehplbaa

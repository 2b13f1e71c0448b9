/- The walk of TextOrder, and the plain laws on how bytes stand. -/
import Derived.Test.YtiilapdkehplbaaLaws2
set_option linter.unusedVariables false
namespace Go.Proofs.Ytiilapdkehplbaa
open Go.RowKit
theorem u8_lt_iff (a b : UInt8) : a < b ↔ a.toNat < b.toNat := Iff.rfl
theorem u8_eq {a b : UInt8} (h1 : ¬ a < b) (h2 : ¬ b < a) : a = b := by
  rw [u8_lt_iff] at h1 h2
  exact UInt8.toNat_inj.1 (by omega)
theorem cb_range : ∀ (a b : List UInt8), Lib.compareBytes a b = -1 ∨ Lib.compareBytes a b = 0 ∨ Lib.compareBytes a b = 1
  | [], [] => .inr (.inl rfl)
  | [], _ :: _ => .inl rfl
  | _ :: _, [] => .inr (.inr rfl)
  | a :: xs, b :: ys => by
    rw [Lib.compareBytes]
    split
    · exact .inl rfl
    · split
      · exact .inr (.inr rfl)
      · exact cb_range xs ys
theorem cb_zero : ∀ (a b : List UInt8), Lib.compareBytes a b = 0 ↔ a = b
  | [], [] => by simp [Lib.compareBytes]
  | [], _ :: _ => by simp [Lib.compareBytes]
  | _ :: _, [] => by simp [Lib.compareBytes]
  | a :: xs, b :: ys => by
    rw [Lib.compareBytes]
    by_cases h1 : a < b
    · rw [if_pos h1]
      constructor
      · intro h; omega
      · intro h
        injection h with h2 _
        subst h2
        exact absurd h1 (UInt8.lt_irrefl a)
    · rw [if_neg h1]
      by_cases h2 : b < a
      · rw [if_pos h2]
        constructor
        · intro h; omega
        · intro h
          injection h with h3 _
          subst h3
          exact absurd h2 (UInt8.lt_irrefl a)
      · rw [if_neg h2, cb_zero xs ys, u8_eq h1 h2]
        simp
theorem cb_swap : ∀ (a b : List UInt8), Lib.compareBytes b a = -Lib.compareBytes a b
  | [], [] => by simp [Lib.compareBytes]
  | [], _ :: _ => by simp [Lib.compareBytes]
  | _ :: _, [] => by simp [Lib.compareBytes]
  | a :: xs, b :: ys => by
    rw [Lib.compareBytes, Lib.compareBytes]
    by_cases h1 : a < b
    · have h2 : ¬ b < a := by rw [u8_lt_iff] at *; omega
      rw [if_neg h2, if_pos h1, if_pos h1]
      rfl
    · by_cases h2 : b < a
      · rw [if_pos h2, if_neg h1, if_pos h2]
      · rw [if_neg h2, if_neg h1, if_neg h1, if_neg h2]
        exact cb_swap xs ys
theorem cb_append : ∀ (a c : List UInt8), Lib.compareBytes a (a ++ c) ≤ 0
  | [], [] => by simp [Lib.compareBytes]
  | [], _ :: _ => by simp [Lib.compareBytes]
  | a :: xs, c => by
    rw [List.cons_append, Lib.compareBytes, if_neg (UInt8.lt_irrefl a), if_neg (UInt8.lt_irrefl a)]
    exact cb_append xs c
/-- a ≤ b and b ≤ c: a ≤ c; and a < c where one of the two is less -/
theorem cb_trans : ∀ (a b c : List UInt8), Lib.compareBytes a b ≤ 0 → Lib.compareBytes b c ≤ 0 → Lib.compareBytes a c ≤ 0 ∧ (Lib.compareBytes a b < 0 ∨ Lib.compareBytes b c < 0 → Lib.compareBytes a c < 0)
  | [], [], c => by
    intro _ h
    exact ⟨h, fun h2 => h2.resolve_left (by simp [Lib.compareBytes])⟩
  | [], b :: ys, [] => by intro _ h; simp [Lib.compareBytes] at h
  | [], b :: ys, c :: zs => by intro _ _; simp [Lib.compareBytes]
  | a :: xs, [], c => by intro h; simp [Lib.compareBytes] at h
  | a :: xs, b :: ys, [] => by intro _ h; simp [Lib.compareBytes] at h
  | a :: xs, b :: ys, c :: zs => by
    intro h1 h2
    rw [Lib.compareBytes] at h1 h2 ⊢
    rw [Lib.compareBytes, Lib.compareBytes]
    simp only [u8_lt_iff] at *
    by_cases ab : a.toNat < b.toNat
    · have : a.toNat < c.toNat := by
        by_cases bc : b.toNat < c.toNat
        · omega
        · rw [if_neg bc] at h2
          by_cases cb : c.toNat < b.toNat
          · rw [if_pos cb] at h2; omega
          · omega
      rw [if_pos this]
      exact ⟨by omega, fun _ => by omega⟩
    · rw [if_neg ab] at h1
      by_cases ba : b.toNat < a.toNat
      · rw [if_pos ba] at h1; omega
      · rw [if_neg ba] at h1
        by_cases bc : b.toNat < c.toNat
        · rw [if_pos (by omega : a.toNat < c.toNat)]
          exact ⟨by omega, fun _ => by omega⟩
        · rw [if_neg bc] at h2
          by_cases cb : c.toNat < b.toNat
          · rw [if_pos cb] at h2; omega
          · rw [if_neg cb] at h2
            rw [if_neg (by omega : ¬ a.toNat < c.toNat), if_neg (by omega : ¬ c.toNat < a.toNat), if_neg ab, if_neg ba, if_neg bc, if_neg cb]
            exact cb_trans xs ys zs h1 h2
def cmp (a b : ByteArray) : Int := Lib.compareBytes a.data.toList b.data.toList
theorem cmp_call (a b : ByteArray) (w : World) : Calls Try.prog 17 #[.string a, .string b] w fun e w' => e = .returned (.int .i64 (cmp a b)) ∧ w = w' := cmp_any a b w
theorem toList_eq (a : ByteArray) : a.toList = a.data.toList := ByteArray.toList_eq a
theorem cmp_beq (a b : ByteArray) : (a.toList == b.toList) = (cmp a b == 0) := by
  rw [toList_eq, toList_eq, Bool.eq_iff_iff, beq_iff_eq, beq_iff_eq]
  exact (cb_zero _ _).symm
theorem cmp_app (a c : ByteArray) : cmp a (a ++ c) ≤ 0 := by
  unfold cmp
  rw [ByteArray.data_append, Array.toList_append]
  exact cb_append _ _
set_option maxHeartbeats 4000000 in
set_option maxRecDepth 100000 in
theorem order_core (a b c : ByteArray) (x y z v : Int) (w : World) (ha : a.size ≤ 300) (hb : b.size ≤ 300) (hc : c.size ≤ 300)
    (hx : Hid (∀ w, Calls Try.prog 17 #[.string a, .string b] w fun e w' => e = .returned (.int .i64 x) ∧ w = w'))
    (hy : Hid (∀ w, Calls Try.prog 17 #[.string b, .string c] w fun e w' => e = .returned (.int .i64 y) ∧ w = w'))
    (hz : Hid (∀ w, Calls Try.prog 17 #[.string a, .string c] w fun e w' => e = .returned (.int .i64 z) ∧ w = w'))
    (hs : Hid (∀ w, Calls Try.prog 17 #[.string b, .string a] w fun e w' => e = .returned (.int .i64 (-x)) ∧ w = w'))
    (hv : Hid (∀ w, Calls Try.prog 17 #[.string a, .string (a ++ c)] w fun e w' => e = .returned (.int .i64 v) ∧ w = w'))
    (hab : (a.toList == b.toList) = (x == 0)) (hv0 : v ≤ 0) (hxr : x = -1 ∨ x = 0 ∨ x = 1) (hyr : y = -1 ∨ y = 0 ∨ y = 1) (hzr : z = -1 ∨ z = 0 ∨ z = 1)
    (h1 : x ≤ 0 → y ≤ 0 → z ≤ 0) (h2 : x < 0 → y ≤ 0 → z < 0) :
    Calls Try.prog 7 #[.string a, .string b, .string c] w (Yes w) := by
  have d1 : decide ((300 : Int) < (a.size : Int)) = false := by simp; omega
  have d2 : decide ((300 : Int) < (b.size : Int)) = false := by simp; omega
  have d3 : decide ((300 : Int) < (c.size : Int)) = false := by simp; omega
  have hadd : ∀ W, (Op.stringOp .add a c).run Try.prog W = .ok (.string (a ++ c)) W := fun W => run_string_add_sum W _ _ (by omega)
  have d4 : decide ((0 : Int) < v) = false := by simp; omega
  rcases hxr with rfl | rfl | rfl <;> rcases hyr with rfl | rfl | rfl <;> rcases hzr with rfl | rfl | rfl <;> first | (exfalso; omega) | skip
  all_goals
    clear h1 h2
    simp only [show ((-1 : Int) == 0) = false by decide, show ((0 : Int) == 0) = true by decide, show ((1 : Int) == 0) = false by decide] at hab
    go_enter Try.func7, Try.ntmps7
    go_wp2_with fail
    refine (hx.out w).mono ?_
    rintro e w' ⟨rfl, rfl⟩
    go_wp2_with fail
    refine (hy.out w).mono ?_
    rintro e w' ⟨rfl, rfl⟩
    go_wp2_with fail
    refine (hz.out w).mono ?_
    rintro e w' ⟨rfl, rfl⟩
    go_wp2_with fail
    refine (hs.out w).mono ?_
    rintro e w' ⟨rfl, rfl⟩
    go_wp2_with fail
    refine (hv.out w).mono ?_
    rintro e w' ⟨rfl, rfl⟩
    go_wp2_with (go_at_call 10; refine (awake_any _).mono ?_; rintro e w' ⟨rfl, hb⟩)
    go_ret
    exact ⟨rfl, hb⟩
set_option maxRecDepth 100000 in
theorem textOrder_walk (a b c : ByteArray) (w : World) (ha : a.size ≤ 9223372036854775807) (hb : b.size ≤ 9223372036854775807) (hc : c.size ≤ 9223372036854775807) :
    Calls Try.prog 7 #[.string a, .string b, .string c] w (Yes w) := by
  by_cases h : a.size ≤ 300 ∧ b.size ≤ 300 ∧ c.size ≤ 300
  · have ht := cb_trans a.data.toList b.data.toList c.data.toList
    refine order_core a b c (cmp a b) (cmp b c) (cmp a c) (cmp a (a ++ c)) w h.1 h.2.1 h.2.2 (cmp_call a b) (cmp_call b c) (cmp_call a c) (fun w => ?_) (cmp_call a (a ++ c)) (cmp_beq a b) (cmp_app a c) (cb_range _ _) (cb_range _ _) (cb_range _ _) (fun h1 h2 => (ht h1 h2).1) (fun h1 h2 => (ht (Int.le_of_lt h1) h2).2 (.inl h1))
    have := cmp_call b a w
    rwa [show cmp b a = -cmp a b from cb_swap _ _] at this
  · by_cases h1 : 300 < a.size
    · have d1 : decide ((300 : Int) < (a.size : Int)) = true := by simp; omega
      clear h
      go_enter Try.func7, Try.ntmps7
      go_wp2_with (go_at_call 10; refine (awake_any _).mono ?_; rintro e w' ⟨rfl, hb⟩)
      go_ret
      exact ⟨rfl, hb⟩
    · have d1 : decide ((300 : Int) < (a.size : Int)) = false := by simp; omega
      by_cases h2 : 300 < b.size
      · have d2 : decide ((300 : Int) < (b.size : Int)) = true := by simp; omega
        clear h
        go_enter Try.func7, Try.ntmps7
        go_wp2_with (go_at_call 10; refine (awake_any _).mono ?_; rintro e w' ⟨rfl, hb⟩)
        go_ret
        exact ⟨rfl, hb⟩
      · have d2 : decide ((300 : Int) < (b.size : Int)) = false := by simp; omega
        have d3 : decide ((300 : Int) < (c.size : Int)) = true := by simp; omega
        clear h
        go_enter Try.func7, Try.ntmps7
        go_wp2_with (go_at_call 10; refine (awake_any _).mono ?_; rintro e w' ⟨rfl, hb⟩)
        go_ret
        exact ⟨rfl, hb⟩
end Go.Proofs.Ytiilapdkehplbaa

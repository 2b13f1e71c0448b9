/-
  The seat's own texts, what WalkRanks wants besides: Ranks.
-/
import Derived.Test.YtdcglpagdnhkgaaGreatDoorMi
import Derived.WalkLawsBesides
/- loftlaw11.WalkRanks: the walk. -/
set_option linter.unusedVariables false
set_option linter.unusedSimpArgs false
namespace Go.Proofs.YtdcglpagdnhkgaaGreatDoor
open Go.RowKit Go.Shelf
theorem less_cmp : ∀ a b : List UInt8, Op.bytesLess a b = decide (Lib.compareBytes a b < 0)
  | [], [] => rfl
  | [], _ :: _ => rfl
  | _ :: _, [] => rfl
  | a :: ar, b :: bs => by
    rw [Op.bytesLess, Lib.compareBytes]
    by_cases h1 : a < b
    · simp [h1]
    · by_cases h2 : b < a
      · have : (a == b) = false := by
          rw [beq_eq_false_iff_ne]; rintro rfl; exact h1 h2
        simp [h1, h2, this]
      · have : a = b := Tx.u8_eq h1 h2
        subst this
        simp [h1, less_cmp ar bs]
theorem cb_zero_byte : ∀ p a : List UInt8, Lib.compareBytes p (a ++ [0]) < 0 ↔ Lib.compareBytes p a ≤ 0
  | [], [] => by simp [Lib.compareBytes]
  | [], _ :: _ => by simp [Lib.compareBytes]
  | c :: cs, [] => by
    have h1 : ¬ c < 0 := by simp [UInt8.lt_iff_toNat_lt]
    simp only [List.nil_append, Lib.compareBytes, if_neg h1]
    constructor
    · intro h
      split at h
      · omega
      · cases cs <;> simp [Lib.compareBytes] at h
    · intro h; omega
  | c :: cs, b :: bs => by
    simp only [List.cons_append, Lib.compareBytes]
    by_cases h1 : c < b
    · simp [h1]
    · by_cases h2 : b < c
      · simp [h1, h2]
      · simp only [if_neg h1, if_neg h2]
        exact cb_zero_byte cs bs
theorem cmp_zero_byte (p a : ByteArray) : Tx.cmp p (a ++ ⟨#[0]⟩) < 0 ↔ Tx.cmp p a ≤ 0 := by
  unfold Tx.cmp
  rw [show (a ++ (⟨#[0]⟩ : ByteArray)).data.toList = a.data.toList ++ [0] by rw [ByteArray.data_append]; simp]
  exact cb_zero_byte _ _
theorem rank_mono {l : List Pr} {a b : ByteArray} (h : Tx.cmp a b ≤ 0) : rankL l a ≤ rankL l b := by
  unfold rankL
  refine List.countP_mono_left fun p _ hp => ?_
  have hp := of_decide_eq_true hp
  refine decide_eq_true ?_
  by_cases h0 : Tx.cmp a b = 0
  · rw [← cmp_zero.1 h0]; exact hp
  · exact cmp_lt_trans hp (by omega)
theorem rank_zero {l : List Pr} (h : Rising l) (a : ByteArray) : rankL l (a ++ ⟨#[0]⟩) = rankL l a + if hasK l a then 1 else 0 := by
  obtain ⟨h1, h2⟩ := rank_split (k := a) h
  have hle := rankL_le l a
  have hk : hasK l a ↔ (l[rankL l a]?).map (·.1) = some a := Iff.rfl
  rw [show (if hasK l a then 1 else 0) = (if (l[rankL l a]?).map (·.1) = some a then 1 else 0) from rfl]
  clear hk
  generalize rankL l a = r at *
  have hsplit : rankL l (a ++ ⟨#[0]⟩) = rankL (l.take r) (a ++ ⟨#[0]⟩) + rankL (l.drop r) (a ++ ⟨#[0]⟩) := by
    rw [← rankL_append, List.take_append_drop]
  have ht : rankL (l.take r) (a ++ ⟨#[0]⟩) = r := by
    rw [rankL_all (fun p hp => (cmp_zero_byte _ _).2 (by have := h1 p hp; omega)), List.length_take]
    omega
  rw [hsplit, ht]
  congr 1
  by_cases hlt : r < l.length
  · have hd := List.drop_eq_getElem_cons hlt
    have hr : Rising (l.drop r) := List.Pairwise.sublist (List.drop_sublist r l) h
    rw [hd] at h2 hr ⊢
    have hr' := List.pairwise_cons.1 hr
    have hd0 := h2 l[r] List.mem_cons_self
    have hrest : rankL (l.drop (r + 1)) (a ++ ⟨#[0]⟩) = 0 := by
      refine rankL_none fun q hq e => ?_
      have h3 := hr'.1 q hq
      have h4 := (cmp_zero_byte _ _).1 e
      have h5 := cmp_swap q.1 a
      by_cases h6 : Tx.cmp q.1 a = 0
      · rw [cmp_zero.1 h6] at h3; exact hd0 h3
      · exact hd0 (cmp_lt_trans h3 (by omega))
    rw [rankL_cons, hrest, List.getElem?_eq_getElem hlt]
    simp only [Option.map_some, Option.some.injEq, Nat.zero_add]
    by_cases he : l[r].1 = a
    · rw [if_pos he, if_pos ((cmp_zero_byte _ _).2 (by have := (cmp_zero (a := l[r].1) (b := a)).2 he; omega))]
    · rw [if_neg he, if_neg]
      intro e
      have h4 := (cmp_zero_byte _ _).1 e
      have : Tx.cmp l[r].1 a ≠ 0 := fun e => he (cmp_zero.1 e)
      omega
  · rw [List.drop_eq_nil_of_le (by omega), List.getElem?_eq_none (by omega)]
    simp [rankL]
/-- what a law's guard lets by: too many, or a long text: awake -/
theorem str_less (a b : ByteArray) : Op.bytesLess a.toList b.toList = decide (Tx.cmp a b < 0) := by
  rw [Tx.toList_eq, Tx.toList_eq, less_cmp]; rfl
set_option maxHeartbeats 1000000 in
set_option maxRecDepth 100000 in
theorem ranks_0 {w : World} (hT : Tab w) (l : List Pr) (A A' : Option Addr) (c c' m : Nat) (a b : ByteArray) (hl : 60 < l.length) (hl2 : l.length ≤ 9223372036854775807) :
    Calls Tryz.prog 4 #[.slice A l.length c, .slice A' m c', .string a, .string b] w (TrueB w) := by
  have hA := Lib.hid (awake_at hT)
  have d1 : decide ((60 : Int) < (l.length : Int)) = true := by simp; omega
  clear hT
  unfold TrueB
  go_enter Tryz.func4, Tryz.ntmps4
  go_wp2_with fail
  refine hA.out.mono ?_
  rintro e w1 ⟨rfl, hb1⟩
  have hbH := Lib.hid hb1
  clear hb1
  go_wp2
  go_ret
  exact ⟨rfl, hbH.out⟩
set_option maxHeartbeats 1000000 in
set_option maxRecDepth 100000 in
theorem ranks_1 {w : World} (hT : Tab w) (l : List Pr) (A A' : Option Addr) (c c' m : Nat) (a b : ByteArray) (h : ILaw w A l) (hl : l.length ≤ 60) (ha : a.size ≤ 9223372036854775807) (hb : b.size ≤ 9223372036854775807) (hlong : longL l = true ∨ (longL l = false ∧ 2000 < a.size) ∨ (longL l = false ∧ a.size ≤ 2000 ∧ 2000 < b.size)) :
    Calls Tryz.prog 4 #[.slice A l.length c, .slice A' m c', .string a, .string b] w (TrueB w) := by
  have hA := Lib.hid (awake_at hT)
  have hL := refLong_at (c := c) h.1.prs (by omega) h.2.1
  have d1 : decide ((60 : Int) < (l.length : Int)) = false := by simp; omega
  clear hT h
  unfold TrueB
  rcases hlong with hlong | ⟨hlong, d2⟩ | ⟨hlong, d2, d3⟩
  all_goals
    rw [hlong] at hL
    have hLH := Lib.hid hL
    clear hL hlong
    go_enter Tryz.func4, Tryz.ntmps4
    go_wp2_with fail
    refine hLH.out.mono ?_
    rintro e w0 ⟨rfl, rfl⟩
    go_wp2_with fail
    refine hA.out.mono ?_
    rintro e w1 ⟨rfl, hb1⟩
    have hbH := Lib.hid hb1
    clear hb1
    go_wp2
    go_ret
    exact ⟨rfl, hbH.out⟩
set_option maxHeartbeats 4000000 in
set_option maxRecDepth 100000 in
theorem ranks_main {w : World} (hT : Tab w) (l : List Pr) (A A' : Option Addr) (c c' : Nat) (zs : List Int) (a b : ByteArray) (h : ILaw w A l) (hz : IInts w A' zs) (hl : l.length ≤ 60) (hlong : longL l = false) (ha : a.size ≤ 2000) (hb : b.size ≤ 2000) :
    Calls Tryz.prog 4 #[.slice A l.length c, .slice A' zs.length c', .string a, .string b] w (TrueB w) := by
  have hL := refLong_at (c := c) h.1.prs (by omega) h.2.1
  rw [hlong] at hL
  have hLH := Lib.hid hL
  have d1 : decide ((60 : Int) < (l.length : Int)) = false := by simp; omega
  have hM := Lib.hid (made_at (c := c) hT h.1 (by omega) (sized_of hlong) (c' := c') hz.2.1 hz.2.2 hz.1)
  have hTH := Lib.hid hT
  have hsl := sortedL_len l
  have hris := Lib.hid (sortedL_rising l)
  have hless := str_less a b
  have heq := str_beq a b
  clear hT h hL hlong hz
  unfold TrueB
  have hcase : (Op.bytesLess a.toList b.toList = true ∧ (a.toList == b.toList) = false ∧ decide (rankL (sortedL l) a ≤ rankL (sortedL l) b) = true) ∨
      (Op.bytesLess a.toList b.toList = false ∧ (a.toList == b.toList) = true ∧ rankL (sortedL l) a = rankL (sortedL l) b) ∨
      (Op.bytesLess a.toList b.toList = false ∧ (a.toList == b.toList) = false ∧ decide (rankL (sortedL l) b ≤ rankL (sortedL l) a) = true) := by
    have hsw := cmp_swap a b
    by_cases h0 : Tx.cmp a b < 0
    · exact .inl ⟨by rw [hless]; exact decide_eq_true h0, by rw [heq]; exact decide_eq_false (fun e => by have := cmp_zero.2 e; omega), decide_eq_true (rank_mono (by omega))⟩
    · by_cases h1 : Tx.cmp a b = 0
      · exact .inr (.inl ⟨by rw [hless]; exact decide_eq_false h0, by rw [heq]; exact decide_eq_true (cmp_zero.1 h1), by rw [cmp_zero.1 h1]⟩)
      · exact .inr (.inr ⟨by rw [hless]; exact decide_eq_false h0, by rw [heq]; exact decide_eq_false (fun e => h1 (cmp_zero.2 e)), decide_eq_true (rank_mono (by omega))⟩)
  clear hless heq
  have hcH := Lib.hid hcase
  clear hcase
  go_enter Tryz.func4, Tryz.ntmps4
  go_wp2_with fail
  refine hLH.out.mono ?_
  rintro e w0 ⟨rfl, rfl⟩
  go_wp2_with fail
  refine hM.out.mono ?_
  rintro e w1 ⟨s, t, F, R, H, B, cB, rfl, hmo⟩
  obtain ⟨n, hTR, _⟩ := hmo.tree rfl
  generalize sortedL l = m at *
  have hTR1 := Lib.hid hTR
  have hb1 := Lib.hid hmo.bel
  have hT1 := Lib.hid (hTH.out.below hmo.bel (tab_lt hTH.out))
  have hRk := Lib.hid (fun W (hb : Below w1.heap.size w1 W) k => trank_at (hTR1.out.below hb) k)
  have hAw := Lib.hid (fun W (hb : Below w1.heap.size w1 W) => awake_at (hT1.out.below hb (tab_lt hT1.out)))
  have hra := rankL_le m a
  have hrb := rankL_le m b
  have hrz := Lib.hid (rank_zero hris.out a)
  clear hmo hTR hLH hM
  go_wp2_with fail
  refine (hRk.out _ (Below.refl _ _) _).mono ?_
  rintro e w2 ⟨rfl, hb2⟩
  have hb2H := Lib.hid hb2
  clear hb2
  go_wp2_with fail
  refine (hRk.out _ hb2H.out _).mono ?_
  rintro e w3 ⟨rfl, hb3⟩
  have hb3H := Lib.hid (hb2H.out.trans (hb3.mono hb2H.out.size))
  clear hb3
  go_wp2_with fail
  refine (hRk.out _ hb3H.out _).mono ?_
  rintro e w4 ⟨rfl, hb4⟩
  have hb4H := Lib.hid (hb3H.out.trans (hb4.mono hb3H.out.size))
  clear hb4
  go_wp2_with fail
  obtain ⟨x, hx⟩ : ∃ x, rankL m a = x := ⟨_, rfl⟩
  obtain ⟨y, hy⟩ : ∃ y, rankL m b = y := ⟨_, rfl⟩
  obtain ⟨z, hz⟩ : ∃ z, rankL m (a ++ ⟨#[0]⟩) = z := ⟨_, rfl⟩
  have hF : (∃ v : Nat, Calls Tryz.prog 15 #[.pointer (some ⟨s, 0, none⟩), .int .u64 (t.root : Nat), .string a] w4 (fun e w' => e = .returned (.tuple #[.int .u64 (v : Nat), .bool true]) ∧ Below w4.heap.size w4 w') ∧ z = x + 1) ∨
      (Calls Tryz.prog 15 #[.pointer (some ⟨s, 0, none⟩), .int .u64 (t.root : Nat), .string a] w4 (fun e w' => e = .returned (.tuple #[.int .u64 0, .bool false]) ∧ Below w4.heap.size w4 w') ∧ z = x) := by
    have h4 := hrz.out
    rw [hx, hz] at h4
    by_cases hh : hasK m a
    · rw [if_pos hh] at h4
      obtain ⟨hl1, hF⟩ := tfind_yes (hTR1.out.below hb4H.out) hh
      exact .inl ⟨_, hF, h4⟩
    · rw [if_neg hh, Nat.add_zero] at h4
      exact .inr ⟨tfind_no (hTR1.out.below hb4H.out) hh, h4⟩
  have hcc := hcH.out
  rw [hx, hy] at hcc
  rw [hx] at hra
  rw [hy] at hrb
  simp only [hx, hy, hz]
  have hFH := Lib.hid hF
  have hccH := Lib.hid hcc
  clear hF hcc hcH hrz hRk hx hy hz hris
  have e1 : decide (x ≤ m.length) = true := decide_eq_true hra
  have e2 : decide ((x : Int) ≤ (m.length : Int)) = true := decide_eq_true (by omega)
  have e3 : decide ((0 : Int) ≤ (x : Int)) = true := decide_eq_true (by omega)
  rcases hFH.out with ⟨v, hF, hz⟩ | ⟨hF, hz⟩
  · have hF2 := Lib.hid hF
    have dz : ((z : Int) == (x : Int) + 1) = true := by rw [hz]; simp
    clear hF hz hFH
    refine hF2.out.mono ?_
    rintro e w5 ⟨rfl, hb5⟩
    have hb5H := Lib.hid (hb4H.out.trans (hb5.mono hb4H.out.size))
    clear hb5
    rcases hccH.out with ⟨f1, f2, f3⟩ | ⟨f1, f2, f3⟩ | ⟨f1, f2, f3⟩
    · have f4 : decide ((x : Int) ≤ (y : Int)) = true := by have := of_decide_eq_true f3; exact decide_eq_true (by omega)
      clear hccH
      go_wp2_with fail
      refine (hAw.out _ hb5H.out).mono ?_
      rintro e w6 ⟨rfl, hb6⟩
      have hb6H := Lib.hid (hb1.out.trans ((hb5H.out.trans (hb6.mono hb5H.out.size)).mono hb1.out.size))
      clear hb6
      go_wp2
      go_ret
      exact ⟨rfl, hb6H.out⟩
    · subst f3
      have f4 : decide ((x : Int) ≤ (x : Int)) = true := by simp
      have f5 : decide (x ≤ x) = true := by simp
      clear hccH
      go_wp2_with fail
      refine (hAw.out _ hb5H.out).mono ?_
      rintro e w6 ⟨rfl, hb6⟩
      have hb6H := Lib.hid (hb1.out.trans ((hb5H.out.trans (hb6.mono hb5H.out.size)).mono hb1.out.size))
      clear hb6
      go_wp2
      go_ret
      exact ⟨rfl, hb6H.out⟩
    · have f4 : decide ((y : Int) ≤ (x : Int)) = true := by have := of_decide_eq_true f3; exact decide_eq_true (by omega)
      clear hccH
      go_wp2_with fail
      refine (hAw.out _ hb5H.out).mono ?_
      rintro e w6 ⟨rfl, hb6⟩
      have hb6H := Lib.hid (hb1.out.trans ((hb5H.out.trans (hb6.mono hb5H.out.size)).mono hb1.out.size))
      clear hb6
      go_wp2
      go_ret
      exact ⟨rfl, hb6H.out⟩
  · have hF2 := Lib.hid hF
    have dz : ((z : Int) == (x : Int)) = true := by rw [hz]; simp
    clear hF hz hFH
    refine hF2.out.mono ?_
    rintro e w5 ⟨rfl, hb5⟩
    have hb5H := Lib.hid (hb4H.out.trans (hb5.mono hb4H.out.size))
    clear hb5
    rcases hccH.out with ⟨f1, f2, f3⟩ | ⟨f1, f2, f3⟩ | ⟨f1, f2, f3⟩
    · have f4 : decide ((x : Int) ≤ (y : Int)) = true := by have := of_decide_eq_true f3; exact decide_eq_true (by omega)
      clear hccH
      go_wp2_with fail
      refine (hAw.out _ hb5H.out).mono ?_
      rintro e w6 ⟨rfl, hb6⟩
      have hb6H := Lib.hid (hb1.out.trans ((hb5H.out.trans (hb6.mono hb5H.out.size)).mono hb1.out.size))
      clear hb6
      go_wp2
      go_ret
      exact ⟨rfl, hb6H.out⟩
    · subst f3
      have f4 : decide ((x : Int) ≤ (x : Int)) = true := by simp
      have f5 : decide (x ≤ x) = true := by simp
      clear hccH
      go_wp2_with fail
      refine (hAw.out _ hb5H.out).mono ?_
      rintro e w6 ⟨rfl, hb6⟩
      have hb6H := Lib.hid (hb1.out.trans ((hb5H.out.trans (hb6.mono hb5H.out.size)).mono hb1.out.size))
      clear hb6
      go_wp2
      go_ret
      exact ⟨rfl, hb6H.out⟩
    · have f4 : decide ((y : Int) ≤ (x : Int)) = true := by have := of_decide_eq_true f3; exact decide_eq_true (by omega)
      clear hccH
      go_wp2_with fail
      refine (hAw.out _ hb5H.out).mono ?_
      rintro e w6 ⟨rfl, hb6⟩
      have hb6H := Lib.hid (hb1.out.trans ((hb5H.out.trans (hb6.mono hb5H.out.size)).mono hb1.out.size))
      clear hb6
      go_wp2
      go_ret
      exact ⟨rfl, hb6H.out⟩
end Go.Proofs.YtdcglpagdnhkgaaGreatDoor

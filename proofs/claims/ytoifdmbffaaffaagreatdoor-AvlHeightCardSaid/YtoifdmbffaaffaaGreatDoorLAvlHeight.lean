/-
  The seat's own texts, what AvlHeight wants besides: OpenB, Hgt12.
-/
import Derived.Test.YtoifdmbffaaffaaGreatDoorNc
import Derived.SizedLaws
/- A row of pairs that is read: its size. -/
set_option linter.unusedVariables false
set_option linter.unusedSimpArgs false
namespace Go.Proofs.YtoifdmbffaaffaaGreatDoor
open Go.ChangeShapes Go.WideShapes Go.ChangeAt Go.WideMaps Go.WideElems Go.RowKit Go.Deep
section
variable {H : Type} {enc : TypeId × Value → H} {w : World} {base : Nat} {held : Bool}
theorem open_prs_data {fuel : Nat} {cs : List Value} {x : DataW H × List MemPlace} (h : DataW.trod enc Tryz.prog w base (fun _ => true) held fuel 35 cs = some x) : ∃ A len cap, cs = [.slice A len cap] ∧ (len = 0 ∨ ∃ elems sp, x.1 = .slice elems sp ∧ elems.length = len) := by
  rcases open_slice_pairs Tryz.underlying35 Tryz.underlying47 (by kernel_rfl) rfl rfl (by kernel_rfl) (by kernel_rfl) h with ⟨hcs, _⟩ | ⟨a, len, cap, m, n, V0, V1, D0, D1, P0, P1, hcs, hb, hl, hm, hmm, hx, _⟩
  · exact ⟨none, 0, 0, hcs, .inl rfl⟩
  · exact ⟨some a, len, cap, hcs, .inr ⟨_, _, by rw [hx], by simp⟩⟩
theorem prs_bound {ts : List TypeId} {ds : List (DataW H)} (hw : (DataW.weightsEach Tryz.prog ts ds).all (· ≤ reachBytes) = true) {j fuel len cap : Nat} {A : Option Addr} {d : DataW H} {p : List MemPlace} (ht : ts[j]? = some 35) (hd : ds[j]? = some d)
    (h : DataW.trod enc Tryz.prog w base (fun _ => true) held fuel 35 [.slice A len cap] = some (d, p)) : len ≤ 4398046510976 := by
  obtain ⟨A', len', cap', hcs, hh⟩ := open_prs_data h
  simp only [List.cons.injEq, Value.slice.injEq, and_true] at hcs
  obtain ⟨rfl, rfl, rfl⟩ := hcs
  rcases hh with rfl | ⟨elems, sp, hx, hl⟩
  · omega
  · simp only at hx
    rw [hx] at hd
    have h1 := sized_slice hw ht hd Tryz.underlying35
    rw [show Tryz.prog.bytesOf 47 = 32 by kernel_rfl, show reachBytes = 140737488351232 from rfl] at h1
    omega
end
end Go.Proofs.YtoifdmbffaaffaaGreatDoor
/- loftlaw12.AvlHeight: the walk. -/
set_option linter.unusedVariables false
set_option linter.unusedSimpArgs false
namespace Go.Proofs.YtoifdmbffaaffaaGreatDoor
open Go.RowKit Go.Shelf
theorem least_hgt {k h n : Nat} (hk : k = 0 ∨ 2 ^ (k - 1) ≤ n) (hn : n + 1 ≤ 2 ^ h) : k ≤ h := by
  rcases hk with rfl | hk
  · exact Nat.zero_le _
  · rcases Nat.lt_or_ge h k with h1 | h1
    · have : 2 ^ h ≤ 2 ^ (k - 1) := Nat.pow_le_pow_right (by decide) (by omega)
      omega
    · exact h1
set_option maxHeartbeats 2000000 in
set_option maxRecDepth 100000 in
theorem hgt12_0 {w : World} (hT : Tab w) (l : List Pr) (A : Option Addr) (c : Nat) (h : ILaw w A l) (hb42 : l.length ≤ 4398046510976) (hg : 60 < l.length ∨ (l.length ≤ 60 ∧ longL l = true)) :
    Calls Tryz.prog 4 #[.slice A l.length c] w (TrueB w) := by
  have hso := Lib.hid (refSorted_at (c := c) h.1.prs (Nat.le_refl _) (by omega) h.2.1)
  have hTH := Lib.hid hT
  have hL := fun W (hb : Below w.heap.size w W) => refLong_at (c := c) (h.1.prs.below hb) h.2.2 h.2.1
  have hLH := Lib.hid hL
  clear hT h hL
  unfold TrueB
  go_enter Tryz.func4, Tryz.ntmps4
  go_wp2_with fail
  refine hso.out.mono ?_
  rintro e w2 ⟨v, rfl, hrow, hb2⟩
  obtain ⟨A2, c2, rfl, -, -, -⟩ := own_pairs hrow rfl
  have hbw2 := Lib.hid hb2
  have hN := Lib.hid (snew_at (hTH.out.below hb2 (tab_lt hTH.out)) 262144 1000 4294967295 (by omega) (by omega) (by omega) (by omega) (by omega))
  clear hrow hb2 hso
  go_wp2_with fail
  refine hN.out.mono ?_
  rintro e w3 ⟨s, F, rfl, hS, hs3, hF3, hb3⟩
  have hb3H := Lib.hid (hbw2.out.trans (hb3.mono hbw2.out.size))
  clear hS hF3 hb3 hN
  rcases hg with hl | ⟨hl, hlong⟩
  · have d1 : decide ((60 : Int) < (l.length : Int)) = true := by simp; omega
    have hAw := Lib.hid (awake12_at (hTH.out.below hb3H.out (tab_lt hTH.out)))
    go_wp2_with fail
    refine hAw.out.mono ?_
    rintro e w4 ⟨rfl, hb4⟩
    have hbH := Lib.hid (hb3H.out.trans (hb4.mono hb3H.out.size))
    clear hb4
    go_wp2
    go_ret
    exact ⟨rfl, hbH.out⟩
  · have d1 : decide ((60 : Int) < (l.length : Int)) = false := by simp; omega
    have hL3 := hLH.out w3 hb3H.out
    rw [hlong] at hL3
    have hL3H := Lib.hid hL3
    have hAw := Lib.hid (awake12_at (hTH.out.below hb3H.out (tab_lt hTH.out)))
    clear hL3 hlong
    go_wp2_with fail
    refine hL3H.out.mono ?_
    rintro e w4 ⟨rfl, rfl⟩
    go_wp2_with fail
    refine hAw.out.mono ?_
    rintro e w4 ⟨rfl, hb4⟩
    have hbH := Lib.hid (hb3H.out.trans (hb4.mono hb3H.out.size))
    clear hb4
    go_wp2
    go_ret
    exact ⟨rfl, hbH.out⟩
set_option maxHeartbeats 4000000 in
set_option maxRecDepth 100000 in
theorem hgt12_main {w : World} (hT : Tab w) (l : List Pr) (A : Option Addr) (c : Nat) (h : ILaw w A l) (g1 : l.length ≤ 60) (g3 : longL l = false) :
    Calls Tryz.prog 4 #[.slice A l.length c] w (TrueB w) := by
  have hso := Lib.hid (refSorted_at (c := c) h.1.prs (Nat.le_refl _) (by omega) h.2.1)
  have hTH := Lib.hid hT
  have hL := fun W (hb : Below w.heap.size w W) => refLong_at (c := c) (h.1.prs.below hb) h.2.2 h.2.1
  rw [g3] at hL
  have hLH := Lib.hid hL
  have d1 : decide ((60 : Int) < (l.length : Int)) = false := by simp; omega
  have hsl := sortedL_len l
  have hrs := Lib.hid (sortedL_rising l)
  have hszl := sized_of g3
  have hszm : Hid (∀ p ∈ sortedL l, p.1.size ≤ 1000 ∧ p.2.size ≤ 1000) := Lib.hid (fun p hp => hszl p (sortedL_mem hp))
  clear hT h hL g3 hszl
  unfold TrueB
  go_enter Tryz.func4, Tryz.ntmps4
  go_wp2_with fail
  refine hso.out.mono ?_
  rintro e w2 ⟨v, rfl, hrow, hb2⟩
  obtain ⟨A2, c2, rfl, hA2, hc2, hP2⟩ := own_pairs hrow rfl
  have hbw2 := Lib.hid hb2
  have hP2H := Lib.hid hP2
  have hN := Lib.hid (snew_at (hTH.out.below hb2 (tab_lt hTH.out)) 262144 1000 4294967295 (by omega) (by omega) (by omega) (by omega) (by omega))
  clear hrow hb2 hP2 hso hA2
  generalize sortedL l = m at *
  go_wp2_with fail
  refine hN.out.mono ?_
  rintro e w3 ⟨s, F, rfl, hS, hs3, hF3, hb3⟩
  have hb3H := Lib.hid (hbw2.out.trans (hb3.mono hbw2.out.size))
  have hcf3 : CellsF w3 F A2 (prsV m) := CellsF.of_prs (hP2H.out.below hb3) (by exact hb3.size) hF3
  have hF3H : Hid (∀ b, F b → w.heap.size ≤ b) := Lib.hid (fun b hb => Nat.le_trans hbw2.out.size (hF3 b hb))
  have hB := Lib.hid (built12_at (c := c2) hS (by rfl) hcf3 (by omega) hszm.out (by omega) (by simp; omega) (by omega) false)
  clear hS hF3 hb3 hN hcf3
  go_wp2_with fail
  refine (hLH.out _ hb3H.out).mono ?_
  rintro e w4 ⟨rfl, rfl⟩
  go_wp2_with fail
  refine hB.out.mono ?_
  rintro e w5 ⟨t, F5, R5, H5, rfl, hpr, hav, hgo, hS5, hH5, hT5⟩
  have h05 : R5 0 = none := hgo.zero rfl
  obtain ⟨n5, hrd, -⟩ := hS5.rd
  have szt : t.size = m.length := by rw [← BT.prs_len, hpr]
  have hHt := Lib.hid (tavHeight_at hrd h05 hgo.at' hav (by omega))
  have hle := BT.hgt_le t
  have hpw := Lib.hid (BT.size_pow t)
  have hHi := Lib.hid (fun W (hb : Below w5.heap.size w5 W) => high12_at h05 t 0 W hgo.at' (hrd.below hb) (by omega))
  have hbw5 := Lib.hid (hb3H.out.trans (hT5.to_below hb3H.out.size hF3H.out))
  have hT5H := Lib.hid (hTH.out.below hbw5.out (tab_lt hTH.out))
  have hrl := BT.root_lt hgo.at' hrd
  have hszH := Lib.hid szt
  have ht60 : t.hgt ≤ 60 := by omega
  clear hpr hav hgo hS5 hH5 hT5 hB hrd h05 szt hle
  obtain ⟨ht, hht⟩ : ∃ ht, t.hgt = ht := ⟨_, rfl⟩
  obtain ⟨rt, hrt⟩ : ∃ rt, t.root = rt := ⟨_, rfl⟩
  rw [hht] at hHt hHi hpw ht60
  rw [hrt] at hHt hHi hrl
  rw [hrt]
  clear hht hrt
  go_wp2_with fail
  refine hHt.out.mono ?_
  rintro e w6 ⟨rfl, hb6⟩
  have hb6H := Lib.hid hb6
  clear hb6 hHt
  go_wp2_with fail
  go_loopw [8] (fun iv wr => ∃ k : Nat, k ≤ 6 ∧ iv = .int .i64 k ∧ Hid (k = 0 ∨ 2 ^ (k - 1) ≤ m.length) ∧ w6 = wr) (fun iv _ => 7 - (intOf iv).toNat)
  case atStart => exact ⟨0, by omega, rfl, Lib.hid (.inl rfl), rfl⟩
  case round =>
    obtain ⟨k, hk, rfl, hpre, rfl⟩ := hrel
    by_cases hlt : 2 ^ k - 1 < m.length
    · have hk5 : k ≤ 5 := by
        rcases Nat.lt_or_ge 5 k with h1 | h1
        · have : 2 ^ 6 ≤ 2 ^ k := Nat.pow_le_pow_right (by decide) h1
          omega
        · exact h1
      have hnx : Hid (k + 1 = 0 ∨ 2 ^ (k + 1 - 1) ≤ m.length) := Lib.hid (.inr (by rw [Nat.add_sub_cancel]; omega))
      have hcs : k = 0 ∨ k = 1 ∨ k = 2 ∨ k = 3 ∨ k = 4 ∨ k = 5 := by omega
      rcases hcs with rfl | rfl | rfl | rfl | rfl | rfl
      all_goals
        simp only [Nat.reducePow, Nat.reduceSub] at hlt
        go_wp2
        go_roundw
        case rel => first | exact ⟨1, by omega, rfl, hnx, trivial⟩ | exact ⟨2, by omega, rfl, hnx, trivial⟩ | exact ⟨3, by omega, rfl, hnx, trivial⟩ | exact ⟨4, by omega, rfl, hnx, trivial⟩ | exact ⟨5, by omega, rfl, hnx, trivial⟩ | exact ⟨6, by omega, rfl, hnx, trivial⟩
        case measure => simp [intOf]
    · have hfin : k ≤ ht := least_hgt hpre.out (by rw [← hszH.out]; exact hpw.out)
      have hfinH := Lib.hid hfin
      have hAw := Lib.hid (fun W (hb : Below w6.heap.size w6 W) => awake12_at (hT5H.out.below (hb6H.out.trans (hb.mono hb6H.out.size)) (tab_lt hT5H.out)))
      have e2 : decide (k ≤ ht) = true := decide_eq_true hfin
      have e2' : decide ((k : Int) ≤ (ht : Int)) = true := decide_eq_true (by omega)
      have hcs : k = 0 ∨ k = 1 ∨ k = 2 ∨ k = 3 ∨ k = 4 ∨ k = 5 ∨ k = 6 := by omega
      rcases hcs with rfl | rfl | rfl | rfl | rfl | rfl | rfl
      all_goals
        simp only [Nat.reducePow, Nat.reduceSub] at hlt
        try push_cast at e2'
        clear hfin
        go_wp2_with fail
        refine (hHi.out _ hb6H.out).mono ?_
        rintro e w7 ⟨rfl, hb7⟩
        have hb7H := Lib.hid hb7
        have e1 : ((ht : Int) == (ht : Int)) = true := by simp
        clear hb7
        go_wp2_with fail
        refine (hAw.out _ hb7H.out).mono ?_
        rintro e w8 ⟨rfl, hb8⟩
        have hb8H := Lib.hid (hbw5.out.trans ((hb6H.out.trans ((hb7H.out.trans (hb8.mono hb7H.out.size)).mono hb6H.out.size)).mono hbw5.out.size))
        clear hb8
        go_wp2
        go_ret
        exact ⟨rfl, hb8H.out⟩
end Go.Proofs.YtoifdmbffaaffaaGreatDoor

/-
  The seat's own texts, what RedHigh wants besides: Hi13.
-/
import Derived.Test.YtjpmlneihbckpaaGreatDoorNd
/- loftlaw13.RedHigh: the walk. -/
set_option linter.unusedVariables false
set_option linter.unusedSimpArgs false
namespace Go.Proofs.YtjpmlneihbckpaaGreatDoor
open Go.RowKit Go.Shelf
theorem CellsF.of_own {w : World} {F : Nat → Prop} {base c : Nat} {A : Option Addr} {l : List Pr} (h : w.ownsRow base 46 2 (.slice A l.length c) l.length (prsV l)) (hp : Prs w w.heap.size A l) (hF : ∀ b, F b → b < base) : CellsF w F A (prsV l) := by
  rcases hp with h1 | ⟨b, o, h1, h2, h3⟩
  · rw [h1]; exact .inl rfl
  · refine .inr ⟨b, o, h1, h2, fun hf => ?_, h3⟩
    have h4 := hF b hf
    have h5 := (own2_lt h (k := b) (by rw [h1]; rfl)).1
    omega
set_option maxHeartbeats 1000000 in
set_option maxRecDepth 100000 in
theorem high13_0 {w : World} (hT : Tab w) (l : List Pr) (A : Option Addr) (c : Nat) (bk : Bool) (h : ILaw w A l) (hg : 60 < l.length ∨ (l.length ≤ 60 ∧ longL l = true)) :
    Calls Tryz.prog 3 #[.slice A l.length c, .bool bk] w (TrueB w) := by
  have hA := Lib.hid (awake13_at hT)
  have hL := refLong_at (c := c) h.1.prs h.2.2 h.2.1
  have z1 := h.2.2
  clear hT h
  unfold TrueB
  rcases hg with hl | ⟨hl, hlong⟩
  · have d1 : decide ((60 : Int) < (l.length : Int)) = true := by simp; omega
    clear hL
    go_enter Tryz.func3, Tryz.ntmps3
    go_wp2_with fail
    refine hA.out.mono ?_
    rintro e w1 ⟨rfl, hb1⟩
    have hbH := Lib.hid hb1
    clear hb1
    go_wp2
    go_ret
    exact ⟨rfl, hbH.out⟩
  · have d1 : decide ((60 : Int) < (l.length : Int)) = false := by simp; omega
    rw [hlong] at hL
    have hLH := Lib.hid hL
    clear hL hlong
    go_enter Tryz.func3, Tryz.ntmps3
    go_wp2_with fail
    refine hLH.out.mono ?_
    rintro e w0 ⟨rfl, rfl⟩
    go_wp2_with fail
    refine hA.out.mono ?_
    rintro e w1 ⟨rfl, hb1⟩
    have hbH := Lib.hid hb1
    clear hb1
    go_wp2
    go_ret
    exact ⟨rfl, hbH.out⟩
set_option maxHeartbeats 4000000 in
set_option maxRecDepth 100000 in
theorem high13_main {w : World} (hT : Tab w) (l : List Pr) (A : Option Addr) (c : Nat) (bk : Bool) (h : ILaw w A l) (g1 : l.length ≤ 60) (g3 : longL l = false) :
    Calls Tryz.prog 3 #[.slice A l.length c, .bool bk] w (TrueB w) := by
  have hL := refLong_at (c := c) h.1.prs h.2.2 h.2.1
  rw [g3] at hL
  have hLH := Lib.hid hL
  have d1 : decide ((60 : Int) < (l.length : Int)) = false := by simp; omega
  have hso := Lib.hid (fun W (hb : Below w.heap.size w W) => refSorted_at (c := c) (h.1.prs.below hb) hb.size (by omega) h.2.1)
  have hTH := Lib.hid hT
  have hN := Lib.hid (snew_at hT 262144 1000 4294967295 (by omega) (by omega) (by omega) (by omega) (by omega))
  have hsl := sortedL_len l
  have hrs := Lib.hid (sortedL_rising l)
  have hszl := sized_of g3
  have hszm : Hid (∀ p ∈ sortedL l, p.1.size ≤ 1000 ∧ p.2.size ≤ 1000) := Lib.hid (fun p hp => hszl p (sortedL_mem hp))
  clear hT h hL g3 hszl
  unfold TrueB
  go_enter Tryz.func3, Tryz.ntmps3
  go_wp2_with fail
  refine hLH.out.mono ?_
  rintro e w0 ⟨rfl, rfl⟩
  go_wp2_with fail
  refine hN.out.mono ?_
  rintro e w1 ⟨s, F, rfl, hS, hs1, hF1, hb1⟩
  have hb1H := Lib.hid hb1
  have hF1H : Hid (∀ b, F b → w.heap.size ≤ b) := Lib.hid hF1
  have hSo1 := Lib.hid (hso.out w1 hb1)
  have hSH := Lib.hid hS
  have hFl := Lib.hid (fun b (hf : F b) => hS.lt hf)
  clear hso hN hS hF1 hb1 hLH
  go_wp2_with fail
  refine hSo1.out.mono ?_
  rintro e w2 ⟨v, rfl, hrow, hb2⟩
  obtain ⟨A2, c2, rfl, hA2, hc2, hP2⟩ := own_pairs hrow rfl
  have hcf := CellsF.of_own hrow hP2 hFl.out
  have hb2H := Lib.hid (hb1H.out.trans (hb2.mono hb1H.out.size))
  have hB := Lib.hid (built13_at (c := c2) (hSH.out.below hb2) rfl hcf (by omega) hszm.out (by omega) (by simp; omega) (by omega) bk)
  clear hrow hP2 hb2 hcf hSo1 hA2 hc2
  generalize sortedL l = m at *
  go_wp2_with fail
  refine hB.out.mono ?_
  rintro e w5 ⟨t, F5, R5, H5, rfl, hpr, hav, hgo, hS5, hH5, hT5⟩
  have h05 : R5 0 = none := hgo.zero rfl
  have szt : t.size = m.length := by rw [← BT.prs_len, hpr]
  have hsh : Short R5 := hgo.short (fun x ws e => by cases e)
  obtain ⟨n5, hTR, -⟩ := treeIn hS5 hsh h05 hgo.at' hpr hrs.out hgo.nodup
  have hBk := Lib.hid (trbBlack_at hTR.rd h05 hgo.at')
  have hle := BT.hgt_le t
  have hhb : t.hgt ≤ 2 * t.bh + 1 := by have := BT.hgt_bh hav; split at this <;> omega
  have hbh : t.bh ≤ t.hgt := BT.bh_hgt hav
  have hHi := Lib.hid (fun W (hb : Below w5.heap.size w5 W) => height13_at h05 t 0 W hgo.at' (hTR.below hb).rd (by omega))
  have hCk := Lib.hid (fun W (hb : Below w5.heap.size w5 W) => trbCheck_at (hTR.below hb) hav)
  have hSz := fun W (hb : Below w5.heap.size w5 W) => tsize_at (hTR.below hb)
  have hbw5 := Lib.hid (hb2H.out.trans (hT5.to_below hb2H.out.size hF1H.out))
  have hT5H := Lib.hid (hTH.out.below hbw5.out (tab_lt hTH.out))
  have hSzH := Lib.hid hSz
  have ht60 : t.hgt ≤ 60 := by omega
  clear hpr hav hgo hS5 hH5 hT5 hB hTR h05 szt hle hsh hSz hSH hFl
  generalize t.hgt = ht at *
  generalize t.bh = hb9 at *
  generalize t.red = r9 at *
  generalize t.root = rt at *
  go_wp2_with fail
  refine hBk.out.mono ?_
  rintro e w6 ⟨rfl, hb6⟩
  have hb6H := Lib.hid hb6
  clear hb6 hBk
  go_wp2_with fail
  refine (hCk.out _ hb6H.out).mono ?_
  rintro e w7 ⟨rfl, hb7⟩
  have hb7H := Lib.hid (hb6H.out.trans (hb7.mono hb6H.out.size))
  clear hb7 hCk
  go_wp2_with fail
  refine (hHi.out _ hb7H.out).mono ?_
  rintro e w8 ⟨rfl, hb8⟩
  have hb8H := Lib.hid (hb7H.out.trans (hb8.mono hb7H.out.size))
  have e1 : decide ((ht : Int) ≤ 2 * (hb9 : Int) + 1) = true := decide_eq_true (by omega)
  clear hb8 hHi
  go_wp2_with fail
  refine (hSzH.out _ hb8H.out).mono ?_
  rintro e w9 ⟨rfl, hb9'⟩
  have hb9H := Lib.hid (hb8H.out.trans (hb9'.mono hb8H.out.size))
  have e2 : ((m.length : Int) == (m.length : Int)) = true := by simp
  have hbw9 := Lib.hid (hbw5.out.trans (hb9H.out.mono hbw5.out.size))
  have hAw := Lib.hid (awake13_at (hTH.out.below hbw9.out (tab_lt hTH.out)))
  clear hb9' hSzH
  go_wp2_with fail
  refine hAw.out.mono ?_
  rintro e w10 ⟨rfl, hb10⟩
  have hb10H := Lib.hid (hbw9.out.trans (hb10.mono hbw9.out.size))
  clear hb10 hAw
  go_wp2
  go_ret
  exact ⟨rfl, hb10H.out⟩
end Go.Proofs.YtjpmlneihbckpaaGreatDoor

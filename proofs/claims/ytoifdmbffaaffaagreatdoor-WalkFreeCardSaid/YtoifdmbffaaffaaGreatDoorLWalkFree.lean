/-
  The seat's own texts, what WalkFree wants besides: Grow2, Made, ReadM, Awk, Freed.
-/
import Derived.Test.YtoifdmbffaaffaaGreatDoorMi
import Derived.Deep.DeepMust
/- loftlaw11.grow: the walk. -/
set_option linter.unusedVariables false
set_option linter.unusedSimpArgs false
namespace Go.Proofs.YtoifdmbffaaffaaGreatDoor
open Go.RowKit Go.Shelf
/-- what grow leaves -/
def GrowPost (w : World) (s : Nat) (F : Nat → Prop) (R : Nat → Option (List Nat)) (H : List Nat) (P q most last G : Nat) (l : List Pr) (e : Ending) (w' : World) : Prop :=
  ∃ t F' R' H', e = .returned (.int .u64 (t.root : Nat)) ∧ t.prs = l ∧ GrowOut R R' t ∧ StoreIs w' s F' R' H' (P + 9 * l.length) q most last (G + 3 * l.length) ∧ H'.length = H.length + 3 * l.length ∧ Turn w F w' F'
/-- which node is the root -/
def pickK (zs : List Int) (d n : Nat) : Nat := match zs[d]? with | some z => if 0 ≤ z then (z % n).toNat else n / 2 | none => n / 2
theorem pickK_lt (zs : List Int) (d n : Nat) (h : 0 < n) : pickK zs d n < n := by
  unfold pickK
  split
  · split
    · rename_i z _ _
      have h1 := Int.emod_nonneg z (show (n : Int) ≠ 0 by omega)
      have h2 := Int.emod_lt_of_pos z (show (0 : Int) < n by omega)
      omega
    · omega
  · omega
set_option maxHeartbeats 4000000 in
set_option maxRecDepth 100000 in
theorem grow_at (s : Nat) (A' : Option Addr) (c' : Nat) (zs : List Int) (hzl : zs.length ≤ 9223372036854775807) (hzb : ∀ z ∈ zs, -9223372036854775808 ≤ z ∧ z ≤ 9223372036854775807) (q most last : Nat) :
    ∀ (m : Nat) (w : World) (F : Nat → Prop) (R : Nat → Option (List Nat)) (H : List Nat) (P G : Nat) (A : Option Addr) (c : Nat) (l : List Pr) (d : Nat), l.length ≤ m → StoreIs w s F R H P q most last G →
      CellsF w F A (prsV l) → CellsF w F A' (intsV zs) → l.length ≤ c → (∀ p ∈ l, p.1.size ≤ 1000 ∧ p.2.size ≤ 1000) → d + l.length ≤ 1000000 →
      (P + 9 * l.length) * 64 ≤ q → H.length + 3 * l.length ≤ most → G + 3 * l.length ≤ last →
      Calls Tryz.prog 41 #[.pointer (some ⟨s, 0, none⟩), .slice A l.length c, .slice A' zs.length c', .int .i64 (d : Nat)] w (GrowPost w s F R H P q most last G l)
  | 0, w, F, R, H, P, G, A, c, l, d, hm, h, hA, hA', hc, hsz, hd, hq, hmost, hlast => by
    have hl : l = [] := List.eq_nil_of_length_eq_zero (by omega)
    subst hl
    have hfin : Hid (GrowPost w s F R H P q most last G [] (.returned (.int .u64 0)) w) := Lib.hid ⟨.nil, F, R, H, rfl, rfl, GrowOut.nil R, by simpa using h, by simp, Turn.refl _ _⟩
    clear h hA hA' hsz hq hmost hlast hzb
    go_enter Tryz.func41, Tryz.ntmps41
    go_wp2
    go_ret
    exact hfin.out
  | m + 1, w, F, R, H, P, G, A, c, l, d, hm, h, hA, hA', hc, hsz, hd, hq, hmost, hlast => by
    by_cases hl0 : l.length = 0
    · have hl : l = [] := List.eq_nil_of_length_eq_zero hl0
      subst hl
      have hfin : Hid (GrowPost w s F R H P q most last G [] (.returned (.int .u64 0)) w) := Lib.hid ⟨.nil, F, R, H, rfl, rfl, GrowOut.nil R, by simpa using h, by simp, Turn.refl _ _⟩
      clear h hA hA' hsz hq hmost hlast hzb
      go_enter Tryz.func41, Tryz.ntmps41
      go_wp2
      go_ret
      exact hfin.out
    · have hpos : 0 < l.length := by omega
      obtain ⟨k, hk⟩ : ∃ k, pickK zs d l.length = k := ⟨_, rfl⟩
      have hkl : k < l.length := hk ▸ pickK_lt zs d _ hpos
      have hne : ((l.length : Int) == 0) = false := beq_eq_false_iff_ne.2 (by omega)
      obtain ⟨A2, sl1, sl2, hdr, _⟩ := slice_fromF A l.length (k + 1) c (by omega) hc
      push_cast at sl1 sl2
      obtain ⟨p, hp⟩ : ∃ p, l[k] = p := ⟨_, rfl⟩
      obtain ⟨hp1, hp2⟩ := hsz p (hp ▸ List.getElem_mem hkl)
      have hIH := Lib.hid (grow_at s A' c' zs hzl hzb q most last m)
      have hsplit : Hid (l = l.take k ++ p :: l.drop (k + 1)) := Lib.hid (by rw [← hp, ← List.drop_eq_getElem_cons hkl, List.take_append_drop])
      have hcell := Lib.hid (fun W F' (hW : CellsF W F' A (prsV l)) => by have := hW.pairs hkl; rw [hp] at this; exact this)
      have hdrH := Lib.hid hdr
      have htl : Hid ((l.take k).length = k ∧ (l.drop (k + 1)).length = l.length - (k + 1)) := Lib.hid ⟨by rw [List.length_take]; omega, List.length_drop⟩
      have hszH := Lib.hid hsz
      have hSH := Lib.hid h
      have hAH := Lib.hid hA
      have hA'H := Lib.hid hA'
      have hPut1 := Lib.hid (bput_at h p.1 hp1)
      have hw1 := words_le hp1
      have hw2 := words_le hp2
      have hg1 := pgsN_le (n := (Tx.wordsL p.1.data.toList).length + 2) (by omega)
      have hg2 := pgsN_le (n := (Tx.wordsL p.2.data.toList).length + 2) (by omega)
      obtain ⟨b, o, hAs, q1, q2⟩ := hcell.out w F hA
      clear hdr hp hsz h hw1 hw2
      have hcases : (∃ z, zs[d]? = some z ∧ 0 ≤ z ∧ (k : Int) = z % l.length ∧ d < zs.length ∧ z ≤ 9223372036854775807) ∨ (∃ z, zs[d]? = some z ∧ z < 0 ∧ k = l.length / 2 ∧ d < zs.length ∧ -9223372036854775808 ≤ z) ∨ (¬ d < zs.length ∧ k = l.length / 2) := by
        unfold pickK at hk
        by_cases hdl : d < zs.length
        · have hz : zs[d]? = some zs[d] := List.getElem?_eq_getElem hdl
          have hzz := hzb _ (List.getElem_mem hdl)
          rw [hz] at hk
          simp only at hk
          by_cases h0 : 0 ≤ zs[d]
          · rw [if_pos h0] at hk
            have h1 := Int.emod_nonneg zs[d] (show (l.length : Int) ≠ 0 by omega)
            exact .inl ⟨_, hz, h0, by omega, hdl, hzz.2⟩
          · rw [if_neg h0] at hk
            exact .inr (.inl ⟨_, hz, by omega, hk.symm, hdl, hzz.1⟩)
        · rw [List.getElem?_eq_none (by omega)] at hk
          exact .inr (.inr ⟨hdl, hk.symm⟩)
      clear hk hA hA'
      rcases hcases with ⟨z, hz, hz0, hkz, hdl, hz1⟩ | ⟨z, hz, hz0, hkz, hdl, hz1⟩ | ⟨hdl, hkz⟩
      · obtain ⟨b', o', hA's, q3⟩ := hA'H.out.at' (k := d) (u := .int .i64 z) (by rw [intsV, List.getElem?_map, hz]; rfl)
        subst hAs hA's
        have hd1 : decide (d < zs.length) = true := by simp; omega
        have hkz2 : z % (l.length : Int) = (k : Int) := hkz.symm
        clear hkz hz
        go_enter Tryz.func41, Tryz.ntmps41
        go_wp2_with fail
        refine hPut1.out.mono ?_
        rintro e w1 (⟨x1, F1, n1, x10, x164, rfl, hS1, hT1⟩ | ⟨er, F1, rfl, her, hS1, hT1⟩)
        · have hPut2 := Lib.hid (bput_at hS1 p.2 hp2)
          have hA1 := Lib.hid (hAH.out.turn hT1)
          have hA1' := Lib.hid (hA'H.out.turn hT1)
          obtain ⟨b2, o2, hAs2, u1, u2⟩ := hcell.out w1 F1 hA1.out
          cases hAs2
          have n1H := Lib.hid n1
          have hT1H := Lib.hid hT1
          clear q1 q2 hS1 hT1 n1 hPut1
          go_wp2_with fail
          refine hPut2.out.mono ?_
          rintro e w2 (⟨x2, F2, n2, x20, x264, rfl, hS2, hT2⟩ | ⟨er, F2, rfl, her, hS2, hT2⟩)
          · have hA2 := Lib.hid (hA1.out.turn hT2)
            have hA2' := Lib.hid (hA1'.out.turn hT2)
            have n2H := Lib.hid n2
            have hT2H := Lib.hid (hT1H.out.trans hT2)
            have hG1 := hIH.out w2 F2 _ _ _ _ (some ⟨b, o, none⟩) c (l.take k) (d + 1) (by rw [htl.out.1]; omega) hS2 (by rw [prsV_take]; exact hA2.out.take _) hA2'.out (by rw [htl.out.1]; omega) (fun x hx => hszH.out x (List.mem_of_mem_take hx)) (by rw [htl.out.1]; omega) (by rw [htl.out.1]; omega) (by rw [htl.out.1]; simp only [List.length_cons]; omega) (by rw [htl.out.1]; omega)
            rw [htl.out.1] at hG1
            push_cast at hG1
            have hG1H := Lib.hid hG1
            clear u1 u2 hS2 hT2 n2 hPut2 hG1
            go_wp2_with fail
            refine hG1H.out.mono ?_
            rintro e w3 ⟨tl, F3, R3, H3, rfl, hpr3, hgo3, hS3, hH3, hT3⟩
            rw [htl.out.1] at hS3 hH3
            simp only [List.length_cons] at hH3
            have hA3 := Lib.hid (hdrH.out w3 F3 l rfl (hA2.out.turn hT3))
            have hA3' := Lib.hid (hA2'.out.turn hT3)
            have hG2 := hIH.out w3 F3 _ _ _ _ A2 (c - (k + 1)) (l.drop (k + 1)) (d + 1) (by rw [htl.out.2]; omega) hS3 hA3.out hA3'.out (by rw [htl.out.2]; omega) (fun x hx => hszH.out x (List.mem_of_mem_drop hx)) (by rw [htl.out.2]; omega) (by rw [htl.out.2]; omega) (by rw [htl.out.2]; omega) (by rw [htl.out.2]; omega)
            rw [htl.out.2] at hG2
            push_cast at hG2
            have hG2H := Lib.hid hG2
            obtain ⟨nr3, hrd3, _⟩ := hS3.rd
            have hrl := BT.root_lt hgo3.at' hrd3
            have htls : Hid (tl.size = k) := Lib.hid (by rw [← BT.prs_len, hpr3, htl.out.1])
            have hT3H := Lib.hid (hT2H.out.trans hT3)
            have hpr3H := Lib.hid hpr3
            have hgo3H := Lib.hid hgo3
            have hH3H := Lib.hid hH3
            clear hS3 hT3 hG2 hgo3 hrd3 hG1H hpr3 hH3
            go_wp2_with fail
            refine hG2H.out.mono ?_
            rintro e w4 ⟨tr, F4, R4, H4, rfl, hpr4, hgo4, hS4, hH4, hT4⟩
            rw [htl.out.2] at hS4 hH4
            obtain ⟨nr4, hrd4, _⟩ := hS4.rd
            have hrr := BT.root_lt hgo4.at' hrd4
            have htrs : Hid (tr.size = l.length - (k + 1)) := Lib.hid (by rw [← BT.prs_len, hpr4, htl.out.2])
            have hMk := nmake_at hS4 ⟨x1, x2, tl.root, tr.root, 0, l.length⟩ ⟨x164, x264, hrl, hrr, by simp, by simp only; omega⟩
            unfold Nd.v at hMk
            have hMkH := Lib.hid hMk
            have hT4H := Lib.hid (hT3H.out.trans hT4)
            have hpr4H := Lib.hid hpr4
            have hgo4H := Lib.hid hgo4
            have hH4H := Lib.hid hH4
            clear hS4 hT4 hgo4 hrd4 hG2H hpr4 hH4 hMk
            go_wp2_with fail
            refine hMkH.out.mono ?_
            have hH3 := hH3H.out
            have hH4 := hH4H.out
            rintro e w5 (⟨x5, F5, n5, x50, x564, rfl, hS5, hT5⟩ | ⟨er, F5, rfl, her, hS5, hT5⟩)
            · have hfin : Hid (GrowPost w s F R H P q most last G l (.returned (.int .u64 (x5 : Nat))) w5) := Lib.hid (by
                refine ⟨.node x5 x1 x2 0 p.1 p.2 tl tr, F5, _, _, rfl, ?_, ?_, hS5.more ?_ ?_, ?_, hT4H.out.trans hT5⟩
                · rw [BT.prs, hpr3H.out, hpr4H.out]; exact hsplit.out.symm
                · have hsz : l.length = tl.size + 1 + tr.size := by rw [htls.out, htrs.out]; omega
                  rw [hsz]
                  exact grow_plain n1H.out x10 n2H.out x20 hgo3H.out hgo4H.out n5 x50 hp1 hp2 0
                · have : pgsN ((Nd.ws ⟨x1, x2, tl.root, tr.root, 0, l.length⟩).length + 2) = 1 := by simp [Nd.ws, pgsN]
                  rw [this]
                  omega
                · omega
                · simp only [List.length_cons]; omega)
              clear hS5 hT5 n5
              go_wp2
              go_ret
              exact hfin.out
            · have : pgsN ((Nd.ws ⟨x1, x2, tl.root, tr.root, 0, l.length⟩).length + 2) = 1 := by simp [Nd.ws, pgsN]
              rw [this] at her
              exfalso; omega
          · exfalso; simp only [List.length_cons] at her; omega
        · exfalso; omega
      · obtain ⟨b', o', hA's, q3⟩ := hA'H.out.at' (k := d) (u := .int .i64 z) (by rw [intsV, List.getElem?_map, hz]; rfl)
        subst hAs hA's
        have hd1 : decide (d < zs.length) = true := by simp; omega
        have hkz2 : (l.length : Int) / 2 = (k : Int) := by omega
        clear hkz hz
        go_enter Tryz.func41, Tryz.ntmps41
        go_wp2_with fail
        refine hPut1.out.mono ?_
        rintro e w1 (⟨x1, F1, n1, x10, x164, rfl, hS1, hT1⟩ | ⟨er, F1, rfl, her, hS1, hT1⟩)
        · have hPut2 := Lib.hid (bput_at hS1 p.2 hp2)
          have hA1 := Lib.hid (hAH.out.turn hT1)
          have hA1' := Lib.hid (hA'H.out.turn hT1)
          obtain ⟨b2, o2, hAs2, u1, u2⟩ := hcell.out w1 F1 hA1.out
          cases hAs2
          have n1H := Lib.hid n1
          have hT1H := Lib.hid hT1
          clear q1 q2 hS1 hT1 n1 hPut1
          go_wp2_with fail
          refine hPut2.out.mono ?_
          rintro e w2 (⟨x2, F2, n2, x20, x264, rfl, hS2, hT2⟩ | ⟨er, F2, rfl, her, hS2, hT2⟩)
          · have hA2 := Lib.hid (hA1.out.turn hT2)
            have hA2' := Lib.hid (hA1'.out.turn hT2)
            have n2H := Lib.hid n2
            have hT2H := Lib.hid (hT1H.out.trans hT2)
            have hG1 := hIH.out w2 F2 _ _ _ _ (some ⟨b, o, none⟩) c (l.take k) (d + 1) (by rw [htl.out.1]; omega) hS2 (by rw [prsV_take]; exact hA2.out.take _) hA2'.out (by rw [htl.out.1]; omega) (fun x hx => hszH.out x (List.mem_of_mem_take hx)) (by rw [htl.out.1]; omega) (by rw [htl.out.1]; omega) (by rw [htl.out.1]; simp only [List.length_cons]; omega) (by rw [htl.out.1]; omega)
            rw [htl.out.1] at hG1
            push_cast at hG1
            have hG1H := Lib.hid hG1
            clear u1 u2 hS2 hT2 n2 hPut2 hG1
            go_wp2_with fail
            refine hG1H.out.mono ?_
            rintro e w3 ⟨tl, F3, R3, H3, rfl, hpr3, hgo3, hS3, hH3, hT3⟩
            rw [htl.out.1] at hS3 hH3
            simp only [List.length_cons] at hH3
            have hA3 := Lib.hid (hdrH.out w3 F3 l rfl (hA2.out.turn hT3))
            have hA3' := Lib.hid (hA2'.out.turn hT3)
            have hG2 := hIH.out w3 F3 _ _ _ _ A2 (c - (k + 1)) (l.drop (k + 1)) (d + 1) (by rw [htl.out.2]; omega) hS3 hA3.out hA3'.out (by rw [htl.out.2]; omega) (fun x hx => hszH.out x (List.mem_of_mem_drop hx)) (by rw [htl.out.2]; omega) (by rw [htl.out.2]; omega) (by rw [htl.out.2]; omega) (by rw [htl.out.2]; omega)
            rw [htl.out.2] at hG2
            push_cast at hG2
            have hG2H := Lib.hid hG2
            obtain ⟨nr3, hrd3, _⟩ := hS3.rd
            have hrl := BT.root_lt hgo3.at' hrd3
            have htls : Hid (tl.size = k) := Lib.hid (by rw [← BT.prs_len, hpr3, htl.out.1])
            have hT3H := Lib.hid (hT2H.out.trans hT3)
            have hpr3H := Lib.hid hpr3
            have hgo3H := Lib.hid hgo3
            have hH3H := Lib.hid hH3
            clear hS3 hT3 hG2 hgo3 hrd3 hG1H hpr3 hH3
            go_wp2_with fail
            refine hG2H.out.mono ?_
            rintro e w4 ⟨tr, F4, R4, H4, rfl, hpr4, hgo4, hS4, hH4, hT4⟩
            rw [htl.out.2] at hS4 hH4
            obtain ⟨nr4, hrd4, _⟩ := hS4.rd
            have hrr := BT.root_lt hgo4.at' hrd4
            have htrs : Hid (tr.size = l.length - (k + 1)) := Lib.hid (by rw [← BT.prs_len, hpr4, htl.out.2])
            have hMk := nmake_at hS4 ⟨x1, x2, tl.root, tr.root, 0, l.length⟩ ⟨x164, x264, hrl, hrr, by simp, by simp only; omega⟩
            unfold Nd.v at hMk
            have hMkH := Lib.hid hMk
            have hT4H := Lib.hid (hT3H.out.trans hT4)
            have hpr4H := Lib.hid hpr4
            have hgo4H := Lib.hid hgo4
            have hH4H := Lib.hid hH4
            clear hS4 hT4 hgo4 hrd4 hG2H hpr4 hH4 hMk
            go_wp2_with fail
            refine hMkH.out.mono ?_
            have hH3 := hH3H.out
            have hH4 := hH4H.out
            rintro e w5 (⟨x5, F5, n5, x50, x564, rfl, hS5, hT5⟩ | ⟨er, F5, rfl, her, hS5, hT5⟩)
            · have hfin : Hid (GrowPost w s F R H P q most last G l (.returned (.int .u64 (x5 : Nat))) w5) := Lib.hid (by
                refine ⟨.node x5 x1 x2 0 p.1 p.2 tl tr, F5, _, _, rfl, ?_, ?_, hS5.more ?_ ?_, ?_, hT4H.out.trans hT5⟩
                · rw [BT.prs, hpr3H.out, hpr4H.out]; exact hsplit.out.symm
                · have hsz : l.length = tl.size + 1 + tr.size := by rw [htls.out, htrs.out]; omega
                  rw [hsz]
                  exact grow_plain n1H.out x10 n2H.out x20 hgo3H.out hgo4H.out n5 x50 hp1 hp2 0
                · have : pgsN ((Nd.ws ⟨x1, x2, tl.root, tr.root, 0, l.length⟩).length + 2) = 1 := by simp [Nd.ws, pgsN]
                  rw [this]
                  omega
                · omega
                · simp only [List.length_cons]; omega)
              clear hS5 hT5 n5
              go_wp2
              go_ret
              exact hfin.out
            · have : pgsN ((Nd.ws ⟨x1, x2, tl.root, tr.root, 0, l.length⟩).length + 2) = 1 := by simp [Nd.ws, pgsN]
              rw [this] at her
              exfalso; omega
          · exfalso; simp only [List.length_cons] at her; omega
        · exfalso; omega
      · subst hAs
        have hd1 : decide (d < zs.length) = false := by simp; omega
        have hkz2 : (l.length : Int) / 2 = (k : Int) := by omega
        clear hkz
        go_enter Tryz.func41, Tryz.ntmps41
        go_wp2_with fail
        refine hPut1.out.mono ?_
        rintro e w1 (⟨x1, F1, n1, x10, x164, rfl, hS1, hT1⟩ | ⟨er, F1, rfl, her, hS1, hT1⟩)
        · have hPut2 := Lib.hid (bput_at hS1 p.2 hp2)
          have hA1 := Lib.hid (hAH.out.turn hT1)
          have hA1' := Lib.hid (hA'H.out.turn hT1)
          obtain ⟨b2, o2, hAs2, u1, u2⟩ := hcell.out w1 F1 hA1.out
          cases hAs2
          have n1H := Lib.hid n1
          have hT1H := Lib.hid hT1
          clear q1 q2 hS1 hT1 n1 hPut1
          go_wp2_with fail
          refine hPut2.out.mono ?_
          rintro e w2 (⟨x2, F2, n2, x20, x264, rfl, hS2, hT2⟩ | ⟨er, F2, rfl, her, hS2, hT2⟩)
          · have hA2 := Lib.hid (hA1.out.turn hT2)
            have hA2' := Lib.hid (hA1'.out.turn hT2)
            have n2H := Lib.hid n2
            have hT2H := Lib.hid (hT1H.out.trans hT2)
            have hG1 := hIH.out w2 F2 _ _ _ _ (some ⟨b, o, none⟩) c (l.take k) (d + 1) (by rw [htl.out.1]; omega) hS2 (by rw [prsV_take]; exact hA2.out.take _) hA2'.out (by rw [htl.out.1]; omega) (fun x hx => hszH.out x (List.mem_of_mem_take hx)) (by rw [htl.out.1]; omega) (by rw [htl.out.1]; omega) (by rw [htl.out.1]; simp only [List.length_cons]; omega) (by rw [htl.out.1]; omega)
            rw [htl.out.1] at hG1
            push_cast at hG1
            have hG1H := Lib.hid hG1
            clear u1 u2 hS2 hT2 n2 hPut2 hG1
            go_wp2_with fail
            refine hG1H.out.mono ?_
            rintro e w3 ⟨tl, F3, R3, H3, rfl, hpr3, hgo3, hS3, hH3, hT3⟩
            rw [htl.out.1] at hS3 hH3
            simp only [List.length_cons] at hH3
            have hA3 := Lib.hid (hdrH.out w3 F3 l rfl (hA2.out.turn hT3))
            have hA3' := Lib.hid (hA2'.out.turn hT3)
            have hG2 := hIH.out w3 F3 _ _ _ _ A2 (c - (k + 1)) (l.drop (k + 1)) (d + 1) (by rw [htl.out.2]; omega) hS3 hA3.out hA3'.out (by rw [htl.out.2]; omega) (fun x hx => hszH.out x (List.mem_of_mem_drop hx)) (by rw [htl.out.2]; omega) (by rw [htl.out.2]; omega) (by rw [htl.out.2]; omega) (by rw [htl.out.2]; omega)
            rw [htl.out.2] at hG2
            push_cast at hG2
            have hG2H := Lib.hid hG2
            obtain ⟨nr3, hrd3, _⟩ := hS3.rd
            have hrl := BT.root_lt hgo3.at' hrd3
            have htls : Hid (tl.size = k) := Lib.hid (by rw [← BT.prs_len, hpr3, htl.out.1])
            have hT3H := Lib.hid (hT2H.out.trans hT3)
            have hpr3H := Lib.hid hpr3
            have hgo3H := Lib.hid hgo3
            have hH3H := Lib.hid hH3
            clear hS3 hT3 hG2 hgo3 hrd3 hG1H hpr3 hH3
            go_wp2_with fail
            refine hG2H.out.mono ?_
            rintro e w4 ⟨tr, F4, R4, H4, rfl, hpr4, hgo4, hS4, hH4, hT4⟩
            rw [htl.out.2] at hS4 hH4
            obtain ⟨nr4, hrd4, _⟩ := hS4.rd
            have hrr := BT.root_lt hgo4.at' hrd4
            have htrs : Hid (tr.size = l.length - (k + 1)) := Lib.hid (by rw [← BT.prs_len, hpr4, htl.out.2])
            have hMk := nmake_at hS4 ⟨x1, x2, tl.root, tr.root, 0, l.length⟩ ⟨x164, x264, hrl, hrr, by simp, by simp only; omega⟩
            unfold Nd.v at hMk
            have hMkH := Lib.hid hMk
            have hT4H := Lib.hid (hT3H.out.trans hT4)
            have hpr4H := Lib.hid hpr4
            have hgo4H := Lib.hid hgo4
            have hH4H := Lib.hid hH4
            clear hS4 hT4 hgo4 hrd4 hG2H hpr4 hH4 hMk
            go_wp2_with fail
            refine hMkH.out.mono ?_
            have hH3 := hH3H.out
            have hH4 := hH4H.out
            rintro e w5 (⟨x5, F5, n5, x50, x564, rfl, hS5, hT5⟩ | ⟨er, F5, rfl, her, hS5, hT5⟩)
            · have hfin : Hid (GrowPost w s F R H P q most last G l (.returned (.int .u64 (x5 : Nat))) w5) := Lib.hid (by
                refine ⟨.node x5 x1 x2 0 p.1 p.2 tl tr, F5, _, _, rfl, ?_, ?_, hS5.more ?_ ?_, ?_, hT4H.out.trans hT5⟩
                · rw [BT.prs, hpr3H.out, hpr4H.out]; exact hsplit.out.symm
                · have hsz : l.length = tl.size + 1 + tr.size := by rw [htls.out, htrs.out]; omega
                  rw [hsz]
                  exact grow_plain n1H.out x10 n2H.out x20 hgo3H.out hgo4H.out n5 x50 hp1 hp2 0
                · have : pgsN ((Nd.ws ⟨x1, x2, tl.root, tr.root, 0, l.length⟩).length + 2) = 1 := by simp [Nd.ws, pgsN]
                  rw [this]
                  omega
                · omega
                · simp only [List.length_cons]; omega)
              clear hS5 hT5 n5
              go_wp2
              go_ret
              exact hfin.out
            · have : pgsN ((Nd.ws ⟨x1, x2, tl.root, tr.root, 0, l.length⟩).length + 2) = 1 := by simp [Nd.ws, pgsN]
              rw [this] at her
              exfalso; omega
          · exfalso; simp only [List.length_cons] at her; omega
        · exfalso; omega
end Go.Proofs.YtoifdmbffaaffaaGreatDoor
/- loftlaw11.made: the list is sorted, a tree of it is made in a new store. -/
set_option linter.unusedVariables false
set_option linter.unusedSimpArgs false
namespace Go.Proofs.YtoifdmbffaaffaaGreatDoor
open Go.RowKit Go.Shelf
/-- what made leaves -/
structure MadeOut (w w' : World) (l : List Pr) (s : Nat) (t : BT) (F : Nat → Prop) (R : Nat → Option (List Nat)) (H : List Nat) (A : Option Addr) (c : Nat) : Prop where
  prs : t.prs = l
  out : GrowOut (fun _ => none) R t
  st : StoreIs w' s F R H (9 * l.length) 262144 1000 4294967295 (3 * l.length)
  len : H.length = 3 * l.length
  row : CellsF w' F A (prsV l)
  cap : l.length ≤ c
  nil : A = none → c = 0
  Fl : ∀ b, F b → w.heap.size ≤ b
  sl : w.heap.size ≤ s
  bel : Below w.heap.size w w'
def MadePost (w : World) (l : List Pr) (e : Ending) (w' : World) : Prop :=
  ∃ s t F R H A c, e = .returned (.tuple #[.pointer (some ⟨s, 0, none⟩), .int .u64 (t.root : Nat), .slice A l.length c, .bool true]) ∧ MadeOut w w' l s t F R H A c
set_option maxHeartbeats 2000000 in
set_option maxRecDepth 100000 in
theorem made_at {w : World} (hT : Tab w) {c : Nat} {A : Option Addr} {l : List Pr} (h : CellsF w (fun b => w.heap.size ≤ b) A (prsV l)) (hl : l.length ≤ 100) (hs : ∀ p ∈ l, p.1.size ≤ 1000 ∧ p.2.size ≤ 1000)
    {c' : Nat} {A' : Option Addr} {zs : List Int} (hzl : zs.length ≤ 9223372036854775807) (hzb : ∀ z ∈ zs, -9223372036854775808 ≤ z ∧ z ≤ 9223372036854775807) (h' : CellsF w (fun b => w.heap.size ≤ b) A' (intsV zs)) :
    Calls Tryz.prog 40 #[.slice A l.length c, .slice A' zs.length c'] w (MadePost w (sortedL l)) := by
  have hP : Prs w w.heap.size A l := by
    rcases h with h | ⟨b, o, h1, h2, h3, h4⟩
    · left
      cases l with
      | nil => rfl
      | cons p l => simp [prsV] at h
    · exact .inr ⟨b, o, h1, h2, h4⟩
  have hPH := Lib.hid hP
  have hIH := Lib.hid h'
  have hsH := Lib.hid hs
  have hszd : Hid (Sized l) := Lib.hid (fun p hp => by have := hs p hp; omega)
  have hsl := sortedL_len l
  have hN := Lib.hid (snew_at hT 262144 1000 4294967295 (by omega) (by omega) (by omega) (by omega) (by omega))
  clear h hP h' hs
  go_enter Tryz.func40, Tryz.ntmps40
  go_wp2_with fail
  refine hN.out.mono ?_
  rintro e w1 ⟨s, F, rfl, hS, hs1, hF1, hb1⟩
  have hSo := Lib.hid (refSorted_at (c := c) (hPH.out.below hb1) hb1.size (by omega) hszd.out)
  have hb1H := Lib.hid hb1
  have hSH := Lib.hid hS
  have hF1H := Lib.hid hF1
  clear hb1 hS hF1
  go_wp2_with fail
  refine hSo.out.mono ?_
  rintro e w2 ⟨v, rfl, hrow, hb2⟩
  obtain ⟨A2, c2, rfl, hA2, hc2, hP2⟩ := own_pairs hrow rfl
  have hcf : CellsF w2 F A2 (prsV (sortedL l)) := by
    rcases hP2 with h | ⟨b, o, h1, h2, h3⟩
    · rw [h]; exact .inl rfl
    · refine .inr ⟨b, o, h1, h2, fun hf => ?_, h3⟩
      have h4 := hSH.out.lt hf
      have h5 := (own2_lt hrow (k := b) (by rw [h1]; rfl)).1
      omega
  have hb2H := Lib.hid (hb1H.out.trans (hb2.mono hb1H.out.size))
  have hin := Ints_off (F := F) hIH.out hb2H.out hF1H.out hb2H.out.size
  have hG := grow_at s A' c' zs hzl hzb 262144 1000 4294967295 (sortedL l).length w2 F _ _ _ _ A2 c2 (sortedL l) 0 (Nat.le_refl _) (hSH.out.below hb2) hcf hin hc2 (fun p hp => hsH.out p (sortedL_mem hp)) (by omega) (by omega) (by simp only [List.length_nil]; omega) (by omega)
  have hGH := Lib.hid hG
  have hcfH := Lib.hid hcf
  have hA2H := Lib.hid hA2
  clear hrow hb2 hP2 hG hSo hA2 hcf hin
  go_wp2_with fail
  refine hGH.out.mono ?_
  rintro e w3 ⟨t, F3, R3, H3, rfl, hpr, hgo, hS3, hH3, hT3⟩
  have hfin : Hid (MadePost w (sortedL l) (.returned (.tuple #[.pointer (some ⟨s, 0, none⟩), .int .u64 (t.root : Nat), .slice A2 (sortedL l).length c2, .bool true])) w3) := Lib.hid
    ⟨s, t, F3, R3, H3, A2, c2, rfl, hpr, hgo, by simpa using hS3, by simpa using hH3, hcfH.out.turn hT3, hc2, hA2H.out, fun b hb => by
      rcases hT3.grow b hb with h1 | h1
      · exact hF1H.out b h1
      · exact Nat.le_trans hb2H.out.size h1, hs1, hb2H.out.trans (hT3.to_below hb2H.out.size hF1H.out)⟩
  clear hpr hgo hS3 hH3 hT3 hGH
  go_wp2
  exact bodyPost_ret (v := .tuple #[.pointer (some ⟨s, 0, none⟩), .int .u64 (t.root : Nat), .slice A2 (sortedL l).length c2, .bool true]) (by simp [results, Tryz.f40, go_sem]) rfl hfin.out
end Go.Proofs.YtoifdmbffaaffaaGreatDoor
/- What made leaves, as a tree that is read. -/
set_option linter.unusedVariables false
set_option linter.unusedSimpArgs false
namespace Go.Proofs.YtoifdmbffaaffaaGreatDoor
open Go.RowKit Go.Shelf
theorem MadeOut.tree {w w' : World} {l l0 : List Pr} {s c : Nat} {t : BT} {F : Nat → Prop} {R : Nat → Option (List Nat)} {H : List Nat} {A : Option Addr} (h : MadeOut w w' l s t F R H A c) (hl : l = sortedL l0) : ∃ n, TreeR w'.heap.size w' s R n t l ∧ WordsR R H (9 * l.length) n := by
  obtain ⟨n, hrd, hwd⟩ := h.st.rd
  exact ⟨n, ⟨hrd, h.out.short (fun x ws e => by cases e), h.out.zero rfl, h.out.at', h.prs, by rw [hl]; exact sortedL_rising l0, h.out.nodup, BT.size_words h.out.at' h.out.nodup h.st.dom hwd⟩, hwd⟩
def awakeL : List Pr := [(⟨#[97]⟩, ⟨#[]⟩), (⟨#[98]⟩, ⟨#[]⟩), (⟨#[99]⟩, ⟨#[120]⟩)]
theorem awakeL_sorted : sortedL awakeL = awakeL := by decide +kernel
theorem awakeL_has : hasK awakeL ⟨#[99]⟩ := by decide +kernel
theorem awakeL_rank : rankL awakeL ⟨#[99]⟩ = 2 ∧ rankL awakeL ⟨#[98, 98]⟩ = 2 := by decide +kernel
end Go.Proofs.YtoifdmbffaaffaaGreatDoor
/- loftlaw11.awake. -/
set_option linter.unusedVariables false
set_option linter.unusedSimpArgs false
namespace Go.Proofs.YtoifdmbffaaffaaGreatDoor
open Go.RowKit Go.Shelf
theorem lit3 (w : World) : CellsF (w.alloc (.cells #[.string ⟨#[97]⟩, .string ⟨#[]⟩, .string ⟨#[98]⟩, .string ⟨#[]⟩, .string ⟨#[99]⟩, .string ⟨#[120]⟩] 47)) (fun b => (w.alloc (.cells #[.string ⟨#[97]⟩, .string ⟨#[]⟩, .string ⟨#[98]⟩, .string ⟨#[]⟩, .string ⟨#[99]⟩, .string ⟨#[120]⟩] 47)).heap.size ≤ b) (some ⟨w.heap.size, 0, none⟩) (prsV awakeL) := by
  refine .inr ⟨w.heap.size, 0, rfl, by simp, by simp, fun j u hu => ?_⟩
  have hn : (w.alloc (.cells #[.string ⟨#[97]⟩, .string ⟨#[]⟩, .string ⟨#[98]⟩, .string ⟨#[]⟩, .string ⟨#[99]⟩, .string ⟨#[120]⟩] 47)).heap[w.heap.size]? = some (.cells #[.string ⟨#[97]⟩, .string ⟨#[]⟩, .string ⟨#[98]⟩, .string ⟨#[]⟩, .string ⟨#[99]⟩, .string ⟨#[120]⟩] 47 (0, 0)) := World.alloc_heap_new w _
  generalize w.alloc (.cells #[.string ⟨#[97]⟩, .string ⟨#[]⟩, .string ⟨#[98]⟩, .string ⟨#[]⟩, .string ⟨#[99]⟩, .string ⟨#[120]⟩] 47) = V at *
  rw [show prsV awakeL = [.string ⟨#[97]⟩, .string ⟨#[]⟩, .string ⟨#[98]⟩, .string ⟨#[]⟩, .string ⟨#[99]⟩, .string ⟨#[120]⟩] from rfl] at hu
  rcases j with _ | _ | _ | _ | _ | _ | j
  all_goals first | (simp at hu; subst hu; simp [World.cell?, hn]; done) | (simp at hu; done)
theorem awakeL_short : ∀ p ∈ awakeL, p.1.size ≤ 1000 ∧ p.2.size ≤ 1000 := by decide +kernel
set_option maxHeartbeats 2000000 in
set_option maxRecDepth 100000 in
theorem awake_at {w : World} (hT : Tab w) : Calls Tryz.prog 39 #[] w fun e w' => e = .returned (.bool true) ∧ Below w.heap.size w w' := by
  obtain ⟨W, hW⟩ : ∃ W, W = w.alloc (.cells #[.string ⟨#[97]⟩, .string ⟨#[]⟩, .string ⟨#[98]⟩, .string ⟨#[]⟩, .string ⟨#[99]⟩, .string ⟨#[120]⟩] 47) := ⟨_, rfl⟩
  have hbW : Below w.heap.size w W := by rw [hW]; exact (Below.refl _ w).alloc (Nat.le_refl _) _
  have hcf := lit3 w
  rw [← hW] at hcf
  have hM : Calls Tryz.prog 40 #[.slice (some ⟨w.heap.size, 0, none⟩) 3 3, .slice none 0 0] W (MadePost W (sortedL awakeL)) :=
    made_at (hT.below hbW (tab_lt hT)) (c := 3) (l := awakeL) hcf (by decide) awakeL_short (c' := 0) (A' := none) (zs := []) (by simp) (by simp) (.inl rfl)
  rw [awakeL_sorted] at hM
  have hMH := Lib.hid hM
  have hbWH := Lib.hid hbW
  have hWH := Lib.hid hW
  clear hM hcf hbW hW hT
  go_enter Tryz.func39, Tryz.ntmps39
  go_wp2_with fail
  rw [← hWH.out]
  refine hMH.out.mono ?_
  rintro e w1 ⟨s, t, F, R, H, A, c, rfl, hmo⟩
  obtain ⟨n, hTR, _⟩ := hmo.tree awakeL_sorted.symm
  have hb1 := Lib.hid (hbWH.out.trans (hmo.bel.mono hbWH.out.size))
  have hTR1 := Lib.hid hTR
  have hlen : Hid (awakeL.length = 3) := Lib.hid rfl
  clear hmo hTR hMH hWH
  go_wp2_with fail
  obtain ⟨hl, hF⟩ := tfind_yes hTR1.out awakeL_has
  have hnl : Hid (t.nodes.length = 3) := Lib.hid hTR1.out.nodes_len
  obtain ⟨x, hx⟩ : ∃ x, t.nodes[rankL awakeL ⟨#[99]⟩] = x := ⟨_, rfl⟩
  have hx2 : Hid (t.nodes[2]'(by rw [hnl.out]; decide) = x) := Lib.hid (by rw [← hx]; simp only [awakeL_rank.1])
  rw [hx] at hF
  have hFH := Lib.hid hF
  clear hF hx hl
  refine hFH.out.mono ?_
  rintro e w2 ⟨rfl, hb2⟩
  have hb2H := Lib.hid hb2
  have hTR2 := Lib.hid (hTR1.out.below hb2)
  have hP := tpair_at hTR2.out (i := 2) (by decide) (by rw [hnl.out]; decide)
  rw [hx2.out, show awakeL[2].1 = ⟨#[99]⟩ from rfl, show awakeL[2].2 = ⟨#[120]⟩ from rfl] at hP
  have hPH := Lib.hid hP
  clear hb2 hP hFH
  go_wp2_with fail
  refine hPH.out.mono ?_
  rintro e w3 ⟨rfl, hb3⟩
  have hTR3 := Lib.hid (hTR2.out.below hb3)
  have hA := Lib.hid (fun W (hb : Below w3.heap.size w3 W) => tat_out (hTR3.out.below hb) (i := 3) (by rw [hlen.out]; omega))
  have hz3 := hb3.size
  have hb3H := Lib.hid (hb1.out.trans ((hb2H.out.trans (hb3.mono hb2H.out.size)).mono hb1.out.size))
  clear hb3 hPH
  go_wp2_with fail
  have hb4 : Below w3.heap.size w3 (w3.alloc (Obj.cells #[Value.string ⟨#[99]⟩, Value.string ⟨#[120]⟩] 47)) := (Below.refl _ w3).alloc (Nat.le_refl _) _
  have c0 : (w3.alloc (Obj.cells #[Value.string ⟨#[99]⟩, Value.string ⟨#[120]⟩] 47)).cell? ⟨w3.heap.size, 0, none⟩ = some (.string ⟨#[99]⟩) := by go_simp
  have c1 : (w3.alloc (Obj.cells #[Value.string ⟨#[99]⟩, Value.string ⟨#[120]⟩] 47)).cell? ⟨w3.heap.size, 1, none⟩ = some (.string ⟨#[120]⟩) := by go_simp
  refine (hA.out _ hb4).mono ?_
  rintro e w5 ⟨rfl, hb5⟩
  have d0 := (hb5.cell (p := ⟨w3.heap.size, 0, none⟩) (cell_lt c0)).trans c0
  have d1 := (hb5.cell (p := ⟨w3.heap.size, 1, none⟩) (cell_lt c1)).trans c1
  have hb5H := Lib.hid (hb4.trans (hb5.mono hb4.size))
  clear hb5 hb4 c0 c1
  go_wp2_with fail
  have hTR5 := Lib.hid (hTR3.out.below hb5H.out)
  have hS := tsize_at hTR5.out
  rw [hlen.out] at hS
  have hSH := Lib.hid hS
  have hR := Lib.hid (fun W (hb : Below w5.heap.size w5 W) => by have := trank_at (hTR5.out.below hb) ⟨#[98, 98]⟩; rw [awakeL_rank.2] at this; exact this)
  have hC := Lib.hid (fun W (hb : Below w5.heap.size w5 W) => tcheck_at (hTR5.out.below hb))
  clear hS hA
  refine hSH.out.mono ?_
  rintro e w6 ⟨rfl, hb6⟩
  have e0 := (hb6.cell (p := ⟨w3.heap.size, 0, none⟩) (cell_lt d0)).trans d0
  have e1 := (hb6.cell (p := ⟨w3.heap.size, 1, none⟩) (cell_lt d1)).trans d1
  have hb6H := Lib.hid hb6
  clear hb6 d0 d1 hSH
  go_wp2_with fail
  refine (hR.out _ hb6H.out).mono ?_
  rintro e w7 ⟨rfl, hb7⟩
  have hb7H := Lib.hid (hb6H.out.trans (hb7.mono hb6H.out.size))
  clear hb7 e0 e1
  go_wp2_with fail
  refine (hC.out _ hb7H.out).mono ?_
  rintro e w8 ⟨rfl, hb8⟩
  have hb8H := Lib.hid (hb7H.out.trans (hb8.mono hb7H.out.size))
  clear hb8
  go_wp2
  go_ret
  exact ⟨rfl, hb3H.out.trans ((hb5H.out.trans (hb8H.out.mono hb5H.out.size)).mono hb3H.out.size)⟩
end Go.Proofs.YtoifdmbffaaffaaGreatDoor
/- loftlaw11.WalkFree: the walk. -/
set_option linter.unusedVariables false
set_option linter.unusedSimpArgs false
namespace Go.Proofs.YtoifdmbffaaffaaGreatDoor
open Go.RowKit Go.Shelf
set_option maxHeartbeats 1000000 in
set_option maxRecDepth 100000 in
theorem freed_0 {w : World} (hT : Tab w) (l m : List Pr) (A A' : Option Addr) (c c' : Nat) (A3 : Option Addr) (c3 : Nat) (zs : List Int) (h : ILaw w A l) (h' : ILaw w A' m)
    (hg : 60 < l.length ∨ (l.length ≤ 60 ∧ 60 < m.length) ∨ (l.length ≤ 60 ∧ m.length ≤ 60 ∧ longL l = true) ∨ (l.length ≤ 60 ∧ m.length ≤ 60 ∧ longL l = false ∧ longL m = true)) :
    Calls Tryz.prog 11 #[.slice A l.length c, .slice A' m.length c', .slice A3 zs.length c3] w (TrueB w) := by
  have hA := Lib.hid (awake_at hT)
  have hL := Lib.hid (refLong_at (c := c) h.1.prs h.2.2 h.2.1)
  have hL' := Lib.hid (refLong_at (c := c') h'.1.prs h'.2.2 h'.2.1)
  have z1 := h.2.2
  have z2 := h'.2.2
  clear hT h h'
  unfold TrueB
  rcases hg with hg | ⟨g1, g2⟩ | ⟨g1, g2, g3⟩ | ⟨g1, g2, g3, g4⟩
  · have d1 : decide ((60 : Int) < (l.length : Int)) = true := by simp; omega
    go_enter Tryz.func11, Tryz.ntmps11
    go_wp2_with fail
    refine hA.out.mono ?_
    rintro e w1 ⟨rfl, hb1⟩
    have hbH := Lib.hid hb1
    clear hb1
    go_wp2
    go_ret
    exact ⟨rfl, hbH.out⟩
  · have d1 : decide ((60 : Int) < (l.length : Int)) = false := by simp; omega
    have d2 : decide ((60 : Int) < (m.length : Int)) = true := by simp; omega
    go_enter Tryz.func11, Tryz.ntmps11
    go_wp2_with fail
    refine hA.out.mono ?_
    rintro e w1 ⟨rfl, hb1⟩
    have hbH := Lib.hid hb1
    clear hb1
    go_wp2
    go_ret
    exact ⟨rfl, hbH.out⟩
  · have d1 : decide ((60 : Int) < (l.length : Int)) = false := by simp; omega
    have d2 : decide ((60 : Int) < (m.length : Int)) = false := by simp; omega
    have hLa := Lib.hid (by have := hL.out; rw [g3] at this; exact this)
    clear hL g3
    go_enter Tryz.func11, Tryz.ntmps11
    go_wp2_with fail
    refine hLa.out.mono ?_
    rintro e w0 ⟨rfl, rfl⟩
    go_wp2_with fail
    refine hA.out.mono ?_
    rintro e w1 ⟨rfl, hb1⟩
    have hbH := Lib.hid hb1
    clear hb1
    go_wp2
    go_ret
    exact ⟨rfl, hbH.out⟩
  · have d1 : decide ((60 : Int) < (l.length : Int)) = false := by simp; omega
    have d2 : decide ((60 : Int) < (m.length : Int)) = false := by simp; omega
    have hLa := Lib.hid (by have := hL.out; rw [g3] at this; exact this)
    have hLb := Lib.hid (by have := hL'.out; rw [g4] at this; exact this)
    clear hL hL' g3 g4
    go_enter Tryz.func11, Tryz.ntmps11
    go_wp2_with fail
    refine hLa.out.mono ?_
    rintro e w0 ⟨rfl, rfl⟩
    go_wp2_with fail
    refine hLb.out.mono ?_
    rintro e w0 ⟨rfl, rfl⟩
    go_wp2_with fail
    refine hA.out.mono ?_
    rintro e w1 ⟨rfl, hb1⟩
    have hbH := Lib.hid hb1
    clear hb1
    go_wp2
    go_ret
    exact ⟨rfl, hbH.out⟩
set_option maxHeartbeats 4000000 in
set_option maxRecDepth 100000 in
theorem freed_main {w : World} (hT : Tab w) (l m : List Pr) (A A' : Option Addr) (c c' : Nat) (A3 : Option Addr) (c3 : Nat) (zs : List Int) (h : ILaw w A l) (h' : ILaw w A' m) (hz : IInts w A3 zs) (g1 : l.length ≤ 60) (g2 : m.length ≤ 60) (g3 : longL l = false) (g4 : longL m = false) :
    Calls Tryz.prog 11 #[.slice A l.length c, .slice A' m.length c', .slice A3 zs.length c3] w (TrueB w) := by
  have hL := refLong_at (c := c) h.1.prs h.2.2 h.2.1
  have hL' := refLong_at (c := c') h'.1.prs h'.2.2 h'.2.1
  rw [g3] at hL
  rw [g4] at hL'
  have hLH := Lib.hid hL
  have hLH' := Lib.hid hL'
  have d1 : decide ((60 : Int) < (l.length : Int)) = false := by simp; omega
  have d2 : decide ((60 : Int) < (m.length : Int)) = false := by simp; omega
  have hM := Lib.hid (made_at (c := c) hT h.1 (by omega) (sized_of g3) (c' := c3) hz.2.1 hz.2.2 hz.1)
  have hTH := Lib.hid hT
  have hsl := sortedL_len l
  have hsm := sortedL_len m
  have hsh := Lib.hid (sized_of g4)
  have hPm := Lib.hid h'.1.prs
  have hszm := Lib.hid h'.2.1
  clear hT h h' hL hL' g3 g4 hz
  unfold TrueB
  go_enter Tryz.func11, Tryz.ntmps11
  go_wp2_with fail
  refine hLH.out.mono ?_
  rintro e w0 ⟨rfl, rfl⟩
  go_wp2_with fail
  refine hLH'.out.mono ?_
  rintro e w0 ⟨rfl, rfl⟩
  go_wp2_with fail
  refine hM.out.mono ?_
  rintro e w1 ⟨s, t, F, R, H, B, cB, rfl, hmo⟩
  have hso := Lib.hid (refSorted_at (c := c') (hPm.out.below hmo.bel) hmo.bel.size (by omega) hszm.out)
  have hmoH := Lib.hid hmo
  have hrl := Lib.hid (sortedL_rising l)
  clear hmo hLH hLH' hM
  go_wp2_with fail
  refine hso.out.mono ?_
  rintro e w2 ⟨v, rfl, hrow, hb2⟩
  obtain ⟨A2, c2, rfl, hA2, hc2, hP2⟩ := own_pairs hrow rfl
  have hcf : CellsF w2 F A2 (prsV (sortedL m)) := by
    rcases hP2 with h | ⟨b, o, h1, h2, h3⟩
    · rw [h]; exact .inl rfl
    · refine .inr ⟨b, o, h1, h2, fun hf => ?_, h3⟩
      have h4 := hmoH.out.st.lt hf
      have h5 := (own2_lt hrow (k := b) (by rw [h1]; rfl)).1
      omega
  have hG := grow_at s none 0 [] (by simp) (by simp) 262144 1000 4294967295 (sortedL m).length w2 F _ _ _ _ A2 c2 (sortedL m) 0 (Nat.le_refl _) (hmoH.out.st.below hb2) hcf (.inl rfl) hc2 (fun p hp => hsh.out p (sortedL_mem hp)) (by omega) (by omega) (by rw [hmoH.out.len]; omega) (by omega)
  have hGH := Lib.hid hG
  have hrm := Lib.hid (sortedL_rising m)
  have hbw2 := Lib.hid (hmoH.out.bel.trans (hb2.mono hmoH.out.bel.size))
  have hcfH := Lib.hid hcf
  clear hrow hb2 hP2 hG hso hcf hA2
  generalize sortedL l = l1 at *
  generalize sortedL m = m1 at *
  go_wp2_with fail
  refine hGH.out.mono ?_
  rintro e w3 ⟨t2, F3, R3, H3, rfl, hpr, hgo, hS3, hH3, hT3⟩
  have hF3 : Hid (∀ b, F3 b → w.heap.size ≤ b) := Lib.hid (fun b hb => by
    rcases hT3.grow b hb with h1 | h1
    · exact hmoH.out.Fl b h1
    · exact Nat.le_trans hbw2.out.size h1)
  have hbw3 := Lib.hid (hbw2.out.trans (hT3.to_below hbw2.out.size hmoH.out.Fl))
  have hsh3 : Hid (Short R3) := Lib.hid (hgo.short (hmoH.out.out.short (fun x ws e => by cases e)))
  have hz3 : Hid (R3 0 = none) := Lib.hid (hgo.zero (hmoH.out.out.zero rfl))
  have hat1 : Hid (t.At R3) := Lib.hid (hgo.other hmoH.out.out.at')
  have hap : Hid (∀ x ∈ t2.hs, x ∉ t.hs) := Lib.hid (fun x hx hm => hgo.apart hmoH.out.out.at' x hm hx)
  have hgoH := Lib.hid hgo
  have hS3H := Lib.hid hS3
  have hprH := Lib.hid hpr
  have hFr := Lib.hid (wfree_at hS3 hsh3.out hat1.out (by rw [hmoH.out.prs]; exact hrl.out) hmoH.out.out.nodup)
  have hcf3 := Lib.hid (hcfH.out.turn hT3)
  have hRt : Hid (∀ x, x ∉ t.hs → R x = none) := Lib.hid (fun x hx => hmoH.out.out.old x hx)
  clear hpr hgo hS3 hH3 hT3 hGH hcfH
  go_wp2_with fail
  refine hFr.out.mono ?_
  rintro e w6 ⟨F6, H6, rfl, hS6, hT6⟩
  have hbw6 := Lib.hid (hbw3.out.trans (hT6.to_below hbw3.out.size hF3.out))
  have hT6H := Lib.hid (hTH.out.below hbw6.out (tab_lt hTH.out))
  have hsh6 := Lib.hid (hsh3.out.drop t.hs)
  have hz6 : Hid (dropR R3 t.hs 0 = none) := Lib.hid (dropR_zero hz3.out)
  obtain ⟨n6, hTR6, _⟩ := treeIn hS6 hsh6.out hz6.out (dropR_at hgoH.out.at' hap.out) hprH.out hrm.out hgoH.out.nodup
  have hcf6 := Lib.hid (hcf3.out.turn hT6)
  have hS6H := Lib.hid hS6
  have hTR6H := Lib.hid hTR6
  have hF6 : Hid (∀ b, F6 b → w.heap.size ≤ b) := Lib.hid (fun b hb => by
    rcases hT6.grow b hb with h1 | h1
    · exact hF3.out b h1
    · exact Nat.le_trans hbw3.out.size h1)
  have hCk := Lib.hid (tcheck_at hTR6)
  clear hS6 hT6 hFr hTR6
  go_wp2_with fail
  refine hCk.out.mono ?_
  rintro e w7 ⟨rfl, hb7⟩
  have hb7H := Lib.hid hb7
  have hAl := Lib.hid (sall_at (hS6H.out.below hb7))
  clear hb7 hCk
  go_wp2_with fail
  refine hAl.out.mono ?_
  rintro e w8 ⟨v8, Hs, rfl, hpm, hro8, hb8⟩
  obtain ⟨A8, c8, rfl⟩ := ownsRow_form hro8
  have hnd6 := hS6H.out.nodup
  have hp6 : H6.Perm t2.hs := (List.perm_ext_iff_of_nodup hnd6 hgoH.out.nodup).2 (fun x => by
    rw [hS6H.out.dom x]
    constructor
    · intro hx
      have h1 : x ∉ t.hs := fun hm => hx (dropR_in hm)
      rw [dropR_out h1] at hx
      by_cases h2 : x ∈ t2.hs
      · exact h2
      · exact absurd ((hgoH.out.old x h2).trans (hRt.out x h1)) hx
    · intro hx
      rw [dropR_out (hap.out x hx)]
      exact hgoH.out.some hx)
  have hp6H := Lib.hid hp6
  have hlen8 : Hs.length = 3 * m1.length := by
    rw [hpm.length_eq, hp6.length_eq, BT.hs_len, ← hprH.out, BT.prs_len]
  rw [hlen8]
  have d8 : ((((3 * m1.length : Nat) : Int)) == 3 * (m1.length : Int)) = true := by simp
  have hb8H := Lib.hid (hb7H.out.trans (hb8.mono hb7H.out.size))
  have hLi := Lib.hid (tlist_at (hTR6H.out.below hb8H.out))
  clear hb8 hro8 hp6 hnd6 hpm hAl
  go_wp2_with fail
  refine hLi.out.mono ?_
  rintro e w9 ⟨v, rfl, hro, hb9⟩
  obtain ⟨A9, c9, rfl⟩ := ownsRow_form hro
  have hb9H := Lib.hid (hb8H.out.trans (hb9.mono hb8H.out.size))
  have hnl := Lib.hid hTR6H.out.nodes_len
  have hcells : Hid (∀ i (hi : i < m1.length) (hi2 : i < t2.nodes.length), ∃ g, A9 = some ⟨g, 0, none⟩ ∧ ∀ W, Below w9.heap.size w9 W → W.cell? ⟨g, i, none⟩ = some (.int .u64 (t2.nodes[i] : Nat))) := Lib.hid (fun i hi hi2 => by
    obtain ⟨g, cap, hv⟩ := row_pos hro (by omega)
    cases hv
    refine ⟨g, rfl, fun W hb => ?_⟩
    have h1 := hro.cells (g := g) rfl i (.int .u64 (t2.nodes[i] : Nat)) (by rw [hsV, List.getElem?_map, List.getElem?_eq_getElem hi2]; rfl)
    rw [show (⟨g, 0, none⟩ : Addr).add i = ⟨g, i, none⟩ by unfold Addr.add; split <;> simp_all] at h1
    exact (hb.cell (p := ⟨g, i, none⟩) (cell_lt h1)).trans h1)
  have hTR9 := Lib.hid (hTR6H.out.below hb9H.out)
  have hcf9 := Lib.hid (hcf6.out.turn (Turn.below hb9H.out))
  clear hro hb9 hLi hcf6
  go_wp2_with fail
  go_loopw [15] (fun iv wr => ∃ k : Nat, k ≤ m1.length ∧ iv = .int .i64 k ∧ Hid (Below w9.heap.size w9 wr)) (fun iv _ => m1.length - (intOf iv).toNat)
  case atStart => exact ⟨0, by omega, rfl, Lib.hid (Below.refl _ _)⟩
  case round =>
    obtain ⟨k, hk, rfl, hb⟩ := hrel
    by_cases hlt : k < m1.length
    · have hk2 : k < t2.nodes.length := by rw [hnl.out]; exact hlt
      obtain ⟨g, hA2, hgc⟩ := hcells.out k hlt hk2
      have hP := fun W (hb : Below w9.heap.size w9 W) => tpair_at (hTR9.out.below hb) hlt hk2
      have hq := fun W (hb : Below w9.heap.size w9 W) => (hcf9.out.turn (Turn.below hb)).pairs hlt
      obtain ⟨x, hx⟩ : ∃ x, t2.nodes[k] = x := ⟨_, rfl⟩
      obtain ⟨p, hp⟩ : ∃ p, m1[k] = p := ⟨_, rfl⟩
      simp only [hx, hp] at hP hq hgc
      have hPH := Lib.hid hP
      have hqH := Lib.hid hq
      obtain ⟨b, o, hBs, _, _⟩ := hq wr hb.out
      have hc0 := hgc wr hb.out
      subst hA2 hBs
      clear hP hq hgc hx hp
      go_wp2_with fail
      refine (hPH.out wr hb.out).mono ?_
      rintro e w10 ⟨rfl, hb3⟩
      have hb3H := Lib.hid (hb.out.trans (hb3.mono hb.out.size))
      have hz3 := hb3H.out.size
      have hb4H := Lib.hid (hb3H.out.alloc hz3 (Obj.cells #[Value.string p.1, Value.string p.2] 47))
      have r3 : (w10.alloc (Obj.cells #[Value.string p.1, Value.string p.2] 47)).cell? ⟨w10.heap.size, 0, none⟩ = some (.string p.1) := by go_simp
      have r4 : (w10.alloc (Obj.cells #[Value.string p.1, Value.string p.2] 47)).cell? ⟨w10.heap.size, 1, none⟩ = some (.string p.2) := by go_simp
      obtain ⟨b', o', hBs, q3, q4⟩ := hqH.out _ hb4H.out
      cases hBs
      clear hb3 hc0
      go_wp2
      go_quiet (fail)
      go_wp2
      go_roundw
      case rel => exact ⟨k + 1, by omega, by go_num, Lib.hid (hb4H.out.trans ((Tx.drewN_below _ _).mono hb4H.out.size))⟩
      case measure => simp [intOf]; omega
    · obtain rfl : k = m1.length := by omega
      have hbr := Lib.hid (hb9H.out.trans (hb.out.mono hb9H.out.size))
      have hFr2 := Lib.hid (wfree_at (hS6H.out.below hbr.out) hsh6.out (dropR_at hgoH.out.at' hap.out) (by rw [hprH.out]; exact hrm.out) hgoH.out.nodup)
      clear hk hlt
      go_wp2_with fail
      refine hFr2.out.mono ?_
      rintro e w11 ⟨F7, H7, rfl, hS7, hT7⟩
      have hH7 : H7 = [] := by
        refine List.eq_nil_iff_forall_not_mem.2 (fun x hx => (hS7.dom x).1 hx ?_)
        by_cases h2 : x ∈ t2.hs
        · exact dropR_in h2
        · rw [dropR_out h2]
          by_cases h1 : x ∈ t.hs
          · exact dropR_in h1
          · rw [dropR_out h1]; exact (hgoH.out.old x h2).trans (hRt.out x h1)
      have hbw11 := Lib.hid (((hbw6.out.trans (hbr.out.mono hbw6.out.size))).trans (hT7.to_below (Nat.le_trans hbw6.out.size hbr.out.size) (fun b hb => hF6.out b hb)))
      have hWd := Lib.hid (swords_at hS7)
      have hT11 := Lib.hid (hTH.out.below hbw11.out (tab_lt hTH.out))
      clear hFr2 hS7 hT7
      go_wp2_with fail
      refine hWd.out.mono ?_
      rintro e w12 ⟨nw, rfl, ⟨pp, hnp, _, hz, _⟩, _, hb12⟩
      obtain rfl : nw = 0 := by have := hz hH7; omega
      have hAw := Lib.hid (awake_at (hT11.out.below hb12 (tab_lt hT11.out)))
      have hbw12 := Lib.hid (hbw11.out.trans (hb12.mono hbw11.out.size))
      clear hb12 hz hnp
      go_wp2_with fail
      refine hAw.out.mono ?_
      rintro e w13 ⟨rfl, hb13⟩
      have hb13H := Lib.hid (hbw12.out.trans (hb13.mono hbw12.out.size))
      clear hb13
      go_wp2
      go_ret
      exact ⟨rfl, hb13H.out⟩
end Go.Proofs.YtoifdmbffaaffaaGreatDoor

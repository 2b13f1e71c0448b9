/-
  The seat's own texts, part xi: BtWA.
-/
import Derived.Test.YtjcpclcmnhpgpaaGreatDoorFMxh

set_option linter.unusedVariables false
set_option linter.unusedSimpArgs false
namespace Go.Proofs.YtjcpclcmnhpgpaaGreatDoor
open Go.RowKit Go.Shelf
def batR (R : Nat → Option (List Nat)) (t x : Nat) (k : Int) : Option (Nat × Nat) := if k < 0 ∨ bszR R t x ≤ k then none else bat R t 40 x k
section
variable {s N : Nat} {R : Nat → Option (List Nat)} {nn : Nat}
set_option maxHeartbeats 16000000 in
set_option maxRecDepth 100000 in
theorem btAt_at {w : World} (h : Rd N w s R nn) {t : Nat} (ht : BN.Deg t) (x : Nat) (hx : x < 18446744073709551616) (k : Int) :
    Calls Tryz.prog 19 #[.pointer (some ⟨s, 0, none⟩), .int .i64 (t : Nat), .int .u64 (x : Nat), .int .i64 k] w fun e w' => e = .returned (.tuple #[itV (batR R t x k), .int .i64 (cond (batR R t x k).isSome 0 2)]) ∧ Below w.heap.size w w' := by
  have hmo : Tryz.prog.follows .mixedOrders = true := by kernel_rfl
  have hH := Lib.hid h
  have htH := Lib.hid ht
  obtain ⟨Wi, hWi⟩ : ∃ W, W = w.alloc (Obj.cells #[.int .u64 0, .int .u64 0] 33) := ⟨_, rfl⟩
  have hbi : Below w.heap.size w Wi := by rw [hWi]; exact (Below.refl _ w).alloc (Nat.le_refl _) _
  obtain ⟨b8, hb8⟩ : ∃ b, b = w.heap.size := ⟨_, rfl⟩
  have xi : Box Wi b8 33 [.int .u64 0, .int .u64 0] := by rw [hWi, hb8]; exact Box.new w _ _
  obtain ⟨W0, hW0⟩ : ∃ W, W = Wi.alloc (Obj.cells #[.pointer (some ⟨s, 0, none⟩), .int .i64 (t : Nat)] 88) := ⟨_, rfl⟩
  obtain ⟨b11, hb11⟩ : ∃ b, b = Wi.heap.size := ⟨_, rfl⟩
  have hb0 : Below w.heap.size w W0 := by rw [hW0]; exact hbi.alloc hbi.size _
  have x8 : Box W0 b8 33 [.int .u64 0, .int .u64 0] := by rw [hW0]; exact xi.alloc _
  have x11 : Box W0 b11 88 [.pointer (some ⟨s, 0, none⟩), .int .i64 (t : Nat)] := by rw [hW0, hb11]; exact Box.new Wi _ _
  have g8 : w.heap.size ≤ b8 := by omega
  have h811 : b11 ≠ b8 := by have := xi.lt; omega
  have hWiH := Lib.hid (And.intro hWi hb8)
  have hW0H := Lib.hid (And.intro hW0 hb11)
  have hb0H := Lib.hid hb0
  have x8H := Lib.hid x8
  have x11H := Lib.hid x11
  have hbiH := Lib.hid hbi
  have hA := Lib.hid (btAsked_at (h.below hbi) ht)
  have hS0 := Lib.hid (btSize_at (h.below hb0) t ht x hx)
  have hfin : Hid (∀ q W, batR R t x k = q → Below w.heap.size w W → (Ending.returned (.tuple #[itV q, .int .i64 (cond q.isSome 0 2)]) = Ending.returned (.tuple #[itV (batR R t x k), .int .i64 (cond (batR R t x k).isSome 0 2)]) ∧ Below w.heap.size w W)) := Lib.hid (fun q W h1 h2 => ⟨by rw [h1], h2⟩)
  have hun : Hid (batR R t x k = if k < 0 ∨ bszR R t x ≤ k then none else bat R t 40 x k) := Lib.hid rfl
  obtain ⟨D, hD⟩ : ∃ D, D = batR R t x k := ⟨_, rfl⟩
  have hDH := Lib.hid hD
  have cx0 := xi.at' (i := 0) rfl
  have cx1 := xi.at' (i := 1) rfl
  rw [hWi, hb8] at cx0 cx1
  clear h ht hWi hb8 hW0 hb11 xi x8 x11 hb0 hbi hD cx0 cx1
  go_enter Tryz.func19, Tryz.ntmps19
  go_wp2_with fail
  rw [← hWiH.out.1, ← hWiH.out.2]
  refine hA.out.mono ?_
  rintro e w1 ⟨rfl, rfl⟩
  by_cases hk0 : k < 0
  · have dk : decide (k < 0) = true := decide_eq_true hk0
    have z8 := x8H.out
    have e80 := z8.at' (i := 0) rfl
    have e81 := z8.at' (i := 1) rfl
    have k80 := z8.free 0
    have k81 := z8.free 1
    have hf := Lib.hid (hfin.out none _ (by rw [hun.out, if_pos (.inl hk0)]) ((hb0H.out.setCell (p := ⟨b8, 0, none⟩) g8 (.int .u64 0)).setCell (p := ⟨b8, 1, none⟩) g8 (.int .u64 0)))
    have hq := Lib.hid ((z8.set 0 (.int .u64 0)).set 1 (.int .u64 0))
    clear z8
    go_upto_region 6 with (fail)
    rw [← hW0H.out.1]
    go_wp2
    have r0 := hq.out.at' (i := 0) rfl
    have r1 := hq.out.at' (i := 1) rfl
    refine bodyPost_ret (v := .tuple #[.agg #[.int .u64 0, .int .u64 0], .int .i64 2]) (by simp [results, Tryz.f19, go_sem, r0, r1]) rfl hf.out
  · have dk : decide (k < 0) = false := decide_eq_false hk0
    go_upto_region 5 with (fail)
    rw [← hW0H.out.1, ← hW0H.out.2]
    have e110 := x11H.out.at' (i := 0) rfl
    have e111 := x11H.out.at' (i := 1) rfl
    obtain ⟨zr, hzr⟩ : ∃ z, z = bszR R t x := ⟨_, rfl⟩
    have hS1 := hS0.out
    rw [← hzr] at hS1
    have hzrH := Lib.hid hzr
    have hS1H := Lib.hid hS1
    clear hzr hS1
    go_wp2_with fail
    refine hS1H.out.mono ?_
    rintro e w2 ⟨rfl, hb2⟩
    have hbw2 := Lib.hid (hb0H.out.trans (hb2.mono hb0H.out.size))
    have hb02 := Lib.hid hb2
    clear hb2
    by_cases hkz : zr ≤ k
    · have dz : decide (k ≥ zr) = true := decide_eq_true hkz
      have z8 := (x8H.out.below hb02.out)
      have e80 := z8.at' (i := 0) rfl
      have e81 := z8.at' (i := 1) rfl
      have k80 := z8.free 0
      have k81 := z8.free 1
      have hf := Lib.hid (hfin.out none _ (by rw [hun.out, if_pos (.inr (by rw [← hzrH.out]; exact hkz))]) ((hbw2.out.setCell (p := ⟨b8, 0, none⟩) g8 (.int .u64 0)).setCell (p := ⟨b8, 1, none⟩) g8 (.int .u64 0)))
      have hq := Lib.hid ((z8.set 0 (.int .u64 0)).set 1 (.int .u64 0))
      clear z8
      go_wp2
      have r0 := hq.out.at' (i := 0) rfl
      have r1 := hq.out.at' (i := 1) rfl
      refine bodyPost_ret (v := .tuple #[.agg #[.int .u64 0, .int .u64 0], .int .i64 2]) (by simp [results, Tryz.f19, go_sem, r0, r1]) rfl hf.out
    · have dz : decide (k ≥ zr) = false := decide_eq_false (by omega)
      have hDb : Hid (D = bat R t 40 x k) := Lib.hid (by rw [hDH.out, hun.out, if_neg (by rw [← hzrH.out]; omega)])
      clear e110 e111
      go_wp2
      go_loopw [2, 3, 36] (fun xv kv iv wr => ∃ (i x' : Nat) (kk : Int), i ≤ 40 ∧ x' < 18446744073709551616 ∧ xv = .int .u64 (x' : Nat) ∧ kv = .int .i64 kk ∧ iv = .int .i64 (i : Nat) ∧ Hid (D = bat R t (40 - i) x' kk) ∧ Hid (Below W0.heap.size W0 wr)) (fun _ _ iv _ => 40 - (intOf iv).toNat)
      case atStart => exact ⟨0, x, k, by omega, hx, rfl, rfl, rfl, hDb, hb02⟩
      case round =>
        obtain ⟨i, y, kk, hi, hy, rfl, rfl, rfl, hd, hb⟩ := hrel
        have hbw := Lib.hid (hb0H.out.trans (hb.out.mono hb0H.out.size))
        by_cases hlt : i < 40
        · have hGt := Lib.hid (btGet_at (hH.out.below hbw.out) t htH.out y hy)
          have y11 := Lib.hid (x11H.out.below hb.out)
          have y8 := Lib.hid (x8H.out.below hb.out)
          have e110 := y11.out.at' (i := 0) rfl
          have e111 := y11.out.at' (i := 1) rfl
          obtain ⟨m, hm⟩ : ∃ m, 40 - i = m + 1 := ⟨39 - i, by omega⟩
          go_wp2_with fail
          refine hGt.out.mono ?_
          rintro e w3 ⟨v1, v2, v3, rfl, hown, hb3⟩
          obtain ⟨A1, q1, rfl⟩ := ownN_form hown.r1
          obtain ⟨A2, q2, rfl⟩ := ownN_form hown.r2
          obtain ⟨A3, q3, rfl⟩ := ownN_form hown.r3
          obtain ⟨n, hn⟩ : ∃ n, n = bnG R t y := ⟨_, rfl⟩
          have hd2 : D = bat R t (m + 1) y kk := by rw [← hm]; exact hd.out
          rw [← hn] at hown
          rw [← hn]
          obtain ⟨W3, hW3⟩ : ∃ W, W = w3.alloc (Obj.cells #[.slice A1 n.keys.length q1, .slice A2 n.vals.length q2, .slice A3 n.kids.length q3, .int .u64 (n.size : Nat)] 66) := ⟨_, rfl⟩
          obtain ⟨b12, hb12⟩ : ∃ b, b = w3.heap.size := ⟨_, rfl⟩
          have hb33 : Below w3.heap.size w3 W3 := by rw [hW3]; exact (Below.refl _ _).alloc (Nat.le_refl _) _
          have x12 : Box W3 b12 66 [.slice A1 n.keys.length q1, .slice A2 n.vals.length q2, .slice A3 n.kids.length q3, .int .u64 (n.size : Nat)] := by rw [hW3, hb12]; exact Box.new w3 _ _
          have hbr3 : Below wr.heap.size wr W3 := hb3.trans (hb33.mono hb3.size)
          have hn128 := Lib.hid (show b12 ≠ b8 by have := y8.out.lt; have := hb3.size; omega)
          have hb8o := Lib.hid y8.out.lt
          have z11 := Lib.hid (y11.out.below hbr3)
          have z8H := Lib.hid (y8.out.below hbr3)
          have hbw3 := Lib.hid (hbw.out.trans (hbr3.mono hbw.out.size))
          have hb03 := Lib.hid (hb.out.trans (hbr3.mono hb.out.size))
          have hW3H := Lib.hid (And.intro hW3 hb12)
          have hnH := Lib.hid hn
          have x12H := Lib.hid x12
          have hownH := Lib.hid (hown.below hb33)
          have hd2H := Lib.hid hd2
          have hmH := Lib.hid hm
          clear e110 e111 hGt hb3 hown hn hW3 hb12 hb33 hbr3 x12 hd2 hd hb y8 y11 hbw hm
          obtain ⟨wo, rfl⟩ : ∃ wo, wo = wr := ⟨_, rfl⟩
          by_cases he : bnE R t y = 0
          · rw [decide_eq_true he]
            have hw := bnG_words (hH.out.below hbw3.out) htH.out he
            rw [← hnH.out] at hw
            obtain ⟨hfit, wk, wv, wc, hsz⟩ := hw
            have t2 := htH.out.2
            obtain ⟨g1, g2, g3'⟩ := hfit
            have l1 : n.keys.length ≤ 31 := by omega
            have hkids : Hid (n.kids = [] ∨ n.kids.length = n.keys.length + 1) := Lib.hid (g3'.imp id And.left)
            have l3 : n.kids.length ≤ 32 := by rcases g3' with h9 | h9
                                               · rw [h9]; simp
                                               · omega
            have hvl := Lib.hid g2
            have wcH := Lib.hid wc
            obtain ⟨P, hP⟩ : ∃ P, P = atScan R t n.kids n.keys.length 0 kk := ⟨_, rfl⟩
            have hDP : Hid (D = bat.atGo n P (bat R t m)) := Lib.hid (by
              rw [hd2H.out, hP, hnH.out]
              conv => lhs; unfold bat
              rw [if_neg (fun h => h he)])
            have hPH := Lib.hid hP
            clear hP he g2 g3' wk wv wc hsz hd2H
            go_upto_region 11 with (fail)
            rw [← hW3H.out.1, ← hW3H.out.2]
            by_cases hkd : n.kids = []
            · skip
              have hkz : n.kids.length = 0 := by rw [hkd]; rfl
              have hbel : Hid (∀ j, atBelow R t n.kids j = 0) := Lib.hid (fun j => by unfold atBelow; rw [if_pos hkd])
              have hkdH := Lib.hid hkd
              clear hkd
              go_wp2
              go_loopw [3, 14] (fun kv jv wr => ∃ (j : Nat) (k2 : Int), j ≤ n.keys.length ∧ kv = .int .i64 k2 ∧ jv = .int .i64 (j : Nat) ∧ Hid (P = atScan R t n.kids (n.keys.length - j) j k2) ∧ Hid (Below W3.heap.size W3 wr)) (fun _ jv _ => n.keys.length - (intOf jv).toNat)
              case atStart => exact ⟨0, kk, Nat.zero_le _, rfl, rfl, hPH, Lib.hid (Below.refl _ _)⟩
              case round =>
                obtain ⟨j, k2, hj, rfl, rfl, hp, hb5⟩ := hrel
                have u12 := Lib.hid (x12H.out.below hb5.out)
                have hbw5 := Lib.hid (hbw3.out.trans (hb5.out.mono hbw3.out.size))
                have hb05 := Lib.hid (hb03.out.trans (hb5.out.mono hb03.out.size))
                have f0 := u12.out.at' (i := 0) rfl
                have f2 := u12.out.at' (i := 2) rfl
                by_cases hlj : j < n.keys.length
                · have dj : decide ((j : Int) < (n.keys.length : Int)) = true := decide_eq_true (by omega)
                  obtain ⟨m2, hm2⟩ : ∃ m2, n.keys.length - j = m2 + 1 := ⟨n.keys.length - j - 1, by omega⟩
                  have hp2 : P = if k2 ≤ atBelow R t n.kids j then (j, k2, decide (k2 = atBelow R t n.kids j)) else atScan R t n.kids m2 (j + 1) (wrap64 (k2 - wrap64 (atBelow R t n.kids j + 1))) := by
                    rw [hp.out, hm2]; rfl
                  rw [hbel.out] at hp2
                  have hp2H := Lib.hid hp2
                  have hm2H := Lib.hid hm2
                  clear hp2 hm2 hp
                  by_cases hle : k2 ≤ 0
                  · have dle : decide (k2 ≤ 0) = true := decide_eq_true hle
                    by_cases heq : k2 = 0
                    · have deq : (k2 == 0) = true := by rw [heq]; exact beq_self_eq_true _
                      have hvk : j < n.vals.length := by rw [hvl.out]; exact hlj
                      have hPe : P = (j, k2, true) := by rw [hp2H.out, if_pos hle, decide_eq_true heq]
                      have hDe : D = some (n.keys[j], n.vals[j]) := by
                        rw [hDP.out, hPe]
                        unfold bat.atGo
                        rw [cond_true]
                        simp [hlj, hvk]
                      obtain ⟨D1, d1, e1, hD1⟩ := row_cellsF (F := fun b => b < wo.heap.size) hownH.out.r1 (fun _ h => h)
                      obtain ⟨D2, d2, e2, hD2⟩ := row_cellsF (F := fun b => b < wo.heap.size) hownH.out.r2 (fun _ h => h)
                      cases e1
                      cases e2
                      obtain ⟨b7, o7, rfl, hbl7, hf7, hcell7⟩ := hD1.num2 hlj
                      obtain ⟨b9, o9, rfl, hbl9, hf9, hcell9⟩ := hD2.num2 hvk
                      have hlo := hb8o.out
                      have hq7 := Lib.hid (show ¬ (b7 = b8) by omega)
                      have hq9 := Lib.hid (show ¬ (b9 = b8) by omega)
                      have hc7 := hcell7 wr hb5.out
                      have hc9 := hcell9 wr hb5.out
                      obtain ⟨ya, hya⟩ : ∃ y, n.keys[j] = y := ⟨_, rfl⟩
                      obtain ⟨yv, hyv⟩ : ∃ y, n.vals[j] = y := ⟨_, rfl⟩
                      rw [hya] at hc7 hDe
                      rw [hyv] at hc9 hDe
                      have v12 := Lib.hid (x12H.out.below hb5.out)
                      have v8 := Lib.hid (z8H.out.below hb5.out)
                      have hbw6 := Lib.hid (hbw3.out.trans (hb5.out.mono hbw3.out.size))
                      have hddH := Lib.hid (hDH.out.symm.trans hDe)
                      clear hya hyv hcell7 hcell9 hf7 hf9 hlo hD1 hD2 hDe hPe heq hle
                      have x1 := fun X : Exw (fun b => b = b8) wr => X.cell (v12.out.at' (i := 0) rfl) hn128.out
                      have x2 := fun X : Exw (fun b => b = b8) wr => X.cell (v12.out.at' (i := 1) rfl) hn128.out
                      have x3 := fun X : Exw (fun b => b = b8) wr => X.cell hc7 hq7.out
                      have x4 := fun X : Exw (fun b => b = b8) wr => X.cell hc9 hq9.out
                      go_wp2
                      refine wp_region_steps (fun w' => ∃ X : Exw (fun b => b = b8) wr, w' = X.W) [.r 0, .r 1, .r 2, .r 3, .r 4, .r 5, .r 6, .r 7, .r 8, .r 9, .r 10, .a 11, .r 12] hmo (by kernel_rfl) rfl (by kernel_rfl) (exw_start _ _) (fun _ _ d _ _ h => by cases d <;> exact h) ?_
                      refine wpSteps_r _ _ rfl rfl (by rintro _ ⟨X, rfl⟩; go_simp; exact rfl) ?_
                      go_simp
                      refine wpSteps_r _ _ rfl rfl (by rintro _ ⟨X, rfl⟩; go_simp; exact rfl) ?_
                      go_simp
                      refine wpSteps_r _ _ rfl rfl (by rintro _ ⟨X, rfl⟩; go_simp; exact rfl) ?_
                      go_simp
                      refine wpSteps_r _ _ rfl rfl (by rintro _ ⟨X, rfl⟩; go_simp; exact rfl) ?_
                      go_simp
                      refine wpSteps_r _ _ rfl rfl (by rintro _ ⟨X, rfl⟩; go_simp; exact rfl) ?_
                      go_simp
                      refine wpSteps_r _ _ rfl rfl (by rintro _ ⟨X, rfl⟩; go_simp; exact rfl) ?_
                      go_simp
                      refine wpSteps_r _ _ rfl rfl (by rintro _ ⟨X, rfl⟩; go_simp; exact rfl) ?_
                      go_simp
                      refine wpSteps_r _ _ rfl rfl (by rintro _ ⟨X, rfl⟩; go_simp; exact rfl) ?_
                      go_simp
                      refine wpSteps_r _ _ rfl rfl (by rintro _ ⟨X, rfl⟩; go_simp; exact rfl) ?_
                      go_simp
                      refine wpSteps_r _ _ rfl rfl (by rintro _ ⟨X, rfl⟩; go_simp; exact rfl) ?_
                      go_simp
                      refine wpSteps_r _ _ rfl rfl (by rintro _ ⟨X, rfl⟩; go_simp; exact rfl) ?_
                      go_simp
                      clear x1 x2 x3 x4
                      have e80 := v8.out.at' (i := 0) rfl
                      have e81 := v8.out.at' (i := 1) rfl
                      have k80 := v8.out.free 0
                      have k81 := v8.out.free 1
                      refine wpSteps_a _ rfl (fun K2 hK2 => ?_)
                      go_wp2
                      refine hK2 _ _ (exw_then (exw_set (B := fun b => b = b8) (p := ⟨b8, 1, none⟩) (exw_set (B := fun b => b = b8) (p := ⟨b8, 0, none⟩) (exw_below (Below.refl _ _)) rfl _) rfl _) (below_drawn _)) ?_
                      clear hK2 K2
                      refine wpSteps_r _ _ rfl rfl (by rintro _ ⟨X, rfl⟩; go_simp; exact rfl) ?_
                      go_simp
                      refine wpSteps_nil ?_
                      have hf := Lib.hid (hfin.out (some (ya, yv)) _ hddH.out (((hbw6.out.setCell (p := ⟨b8, 0, none⟩) g8 (.int .u64 (ya : Nat))).setCell (p := ⟨b8, 1, none⟩) g8 (.int .u64 (yv : Nat))).drew))
                      have hq := Lib.hid (box_drew ((v8.out.set 0 (.int .u64 (ya : Nat))).set 1 (.int .u64 (yv : Nat))))
                      go_wp2
                      have r0 := hq.out.at' (i := 0) rfl
                      have r1 := hq.out.at' (i := 1) rfl
                      refine bodyPost_ret (v := .tuple #[.agg #[.int .u64 (ya : Nat), .int .u64 (yv : Nat)], .int .i64 0]) ?_ ?_ hf.out
                      · simp [results, Tryz.f19, go_sem, r0, r1]
                      · rfl
                    · have deq : (k2 == 0) = false := by simpa using heq
                      have hPe : Hid (P = (j, k2, false)) := Lib.hid (by rw [hp2H.out, if_pos hle, decide_eq_false heq])
                      clear heq hle
                      have hDn : batR R t x k = none := by
                        rw [← hDH.out, hDP.out, hPe.out]
                        unfold bat.atGo
                        rw [cond_false, if_pos hkdH.out]
                      have hbw6 := Lib.hid (hbw3.out.trans (hb5.out.mono hbw3.out.size))
                      have z8 := (z8H.out.below hb5.out)
                      have e80 := z8.at' (i := 0) rfl
                      have e81 := z8.at' (i := 1) rfl
                      have k80 := z8.free 0
                      have k81 := z8.free 1
                      have hf := Lib.hid (hfin.out none _ hDn ((hbw6.out.setCell (p := ⟨b8, 0, none⟩) g8 (.int .u64 0)).setCell (p := ⟨b8, 1, none⟩) g8 (.int .u64 0)))
                      have hq := Lib.hid ((z8.set 0 (.int .u64 0)).set 1 (.int .u64 0))
                      clear z8
                      clear hDn
                      go_wp2
                      have r0 := hq.out.at' (i := 0) rfl
                      have r1 := hq.out.at' (i := 1) rfl
                      refine bodyPost_ret (v := .tuple #[.agg #[.int .u64 0, .int .u64 0], .int .i64 2]) (by simp [results, Tryz.f19, go_sem, r0, r1]) rfl hf.out
                  · have dle : decide (k2 ≤ 0) = false := decide_eq_false hle
                    obtain ⟨z1, hz1⟩ : ∃ z1, z1 = wrap64 (0 + 1) := ⟨_, rfl⟩
                    obtain ⟨k3, hk3⟩ : ∃ k3, k3 = wrap64 (k2 - z1) := ⟨_, rfl⟩
                    have hrel : Hid (P = atScan R t n.kids (n.keys.length - (j + 1)) (j + 1) k3) := Lib.hid (by rw [hp2H.out, if_neg hle, ← hz1, ← hk3, show n.keys.length - (j + 1) = m2 by have := hm2H.out; omega])
                    have w1 : wrap64 (0 + 1) = z1 := hz1.symm
                    have w2 : wrap64 (k2 - z1) = k3 := hk3.symm
                    have hz0 : z1 = 1 := by rw [hz1]; exact IntWalk.wrap64_in _ (by omega)
                    subst hz0
                    clear hz1 hk3 hle w1
                    go_wp2
                    go_roundw
                    case rel => exact ⟨j + 1, k3, by omega, by first | rfl | rw [w2], by go_num, hrel, hb5⟩
                    case measure => simp [intOf]; omega
                · obtain rfl : j = n.keys.length := by omega
                  have dj : decide ((n.keys.length : Int) < (n.keys.length : Int)) = false := decide_eq_false (by omega)
                  have hPe : Hid (P = (n.keys.length, k2, false)) := Lib.hid (by rw [hp.out, Nat.sub_self]; rfl)
                  clear hp
                  have hDn : batR R t x k = none := by
                    rw [← hDH.out, hDP.out, hPe.out]
                    unfold bat.atGo
                    rw [cond_false, if_pos hkdH.out]
                  have hbw6 := Lib.hid (hbw3.out.trans (hb5.out.mono hbw3.out.size))
                  have z8 := (z8H.out.below hb5.out)
                  have e80 := z8.at' (i := 0) rfl
                  have e81 := z8.at' (i := 1) rfl
                  have k80 := z8.free 0
                  have k81 := z8.free 1
                  have hf := Lib.hid (hfin.out none _ hDn ((hbw6.out.setCell (p := ⟨b8, 0, none⟩) g8 (.int .u64 0)).setCell (p := ⟨b8, 1, none⟩) g8 (.int .u64 0)))
                  have hq := Lib.hid ((z8.set 0 (.int .u64 0)).set 1 (.int .u64 0))
                  clear z8
                  clear hDn
                  go_wp2
                  have r0 := hq.out.at' (i := 0) rfl
                  have r1 := hq.out.at' (i := 1) rfl
                  refine bodyPost_ret (v := .tuple #[.agg #[.int .u64 0, .int .u64 0], .int .i64 2]) (by simp [results, Tryz.f19, go_sem, r0, r1]) rfl hf.out
            · skip
              have hkp : 0 < n.kids.length := List.length_pos_iff.2 hkd
              have hkl : n.keys.length + 1 ≤ n.kids.length := by rcases hkids.out with h9 | h9
                                                                 · exact absurd h9 hkd
                                                                 · omega
              have d0 : decide ((n.kids.length : Int) > 0) = true := decide_eq_true (by omega)
              have d00 : ((n.kids.length : Int) == 0) = false := by simp; omega
              have hbel : Hid (∀ j (hj : j < n.kids.length), atBelow R t n.kids j = bszR R t n.kids[j]) := Lib.hid (fun j hj => by unfold atBelow; rw [if_neg hkd]; simp [hj])
              have hkdH := Lib.hid hkd
              clear hkd
              go_wp2
              go_loopw [3, 14] (fun kv jv wr => ∃ (j : Nat) (k2 : Int), j ≤ n.keys.length ∧ kv = .int .i64 k2 ∧ jv = .int .i64 (j : Nat) ∧ Hid (P = atScan R t n.kids (n.keys.length - j) j k2) ∧ Hid (Below W3.heap.size W3 wr)) (fun _ jv _ => n.keys.length - (intOf jv).toNat)
              case atStart => exact ⟨0, kk, Nat.zero_le _, rfl, rfl, hPH, Lib.hid (Below.refl _ _)⟩
              case round =>
                obtain ⟨j, k2, hj, rfl, rfl, hp, hb5⟩ := hrel
                have u12 := Lib.hid (x12H.out.below hb5.out)
                have hbw5 := Lib.hid (hbw3.out.trans (hb5.out.mono hbw3.out.size))
                have hb05 := Lib.hid (hb03.out.trans (hb5.out.mono hb03.out.size))
                have f0 := u12.out.at' (i := 0) rfl
                have f2 := u12.out.at' (i := 2) rfl
                by_cases hlj : j < n.keys.length
                · have dj : decide ((j : Int) < (n.keys.length : Int)) = true := decide_eq_true (by omega)
                  obtain ⟨m2, hm2⟩ : ∃ m2, n.keys.length - j = m2 + 1 := ⟨n.keys.length - j - 1, by omega⟩
                  have hp2 : P = if k2 ≤ atBelow R t n.kids j then (j, k2, decide (k2 = atBelow R t n.kids j)) else atScan R t n.kids m2 (j + 1) (wrap64 (k2 - wrap64 (atBelow R t n.kids j + 1))) := by
                    rw [hp.out, hm2]; rfl
                  have hjk : j < n.kids.length := by omega
                  rw [hbel.out j hjk] at hp2
                  obtain ⟨D3, d3, e3, hD3⟩ := row_cellsF (F := fun b => b < wo.heap.size) hownH.out.r3 (fun _ h => h)
                  cases e3
                  obtain ⟨b5, o5, hA3, hbl5, hf5, hcell⟩ := hD3.num2 hjk
                  have hcq := hcell wr hb5.out
                  have hSz := fun W (hb : Below wr.heap.size wr W) => btSize_at (hH.out.below (hbw5.out.trans (hb.mono hbw5.out.size))) t htH.out n.kids[j] (wcH.out j hjk)
                  obtain ⟨yk, hyk⟩ : ∃ yk, n.kids[j] = yk := ⟨_, rfl⟩
                  rw [hyk] at hcq hSz hp2
                  generalize bszR R t yk = zz at *
                  have hSzH := Lib.hid hSz
                  have u11 := Lib.hid (z11.out.below hb5.out)
                  have x1 := fun X : Exw (fun _ => False) wr => X.cell (u12.out.at' (i := 2) rfl) (fun h => h)
                  have x2 := fun X : Exw (fun _ => False) wr => X.cell hcq (fun h => h)
                  have x3 := fun X : Exw (fun _ => False) wr => X.cell (u11.out.at' (i := 0) rfl) (fun h => h)
                  have x4 := fun X : Exw (fun _ => False) wr => X.cell (u11.out.at' (i := 1) rfl) (fun h => h)
                  have hp2H := Lib.hid hp2
                  have hm2H := Lib.hid hm2
                  rw [hA3] at f2 x1
                  subst hA3
                  clear hSz hyk hcell hf5 hD3 hp2 hm2 hp
                  go_wp2
                  refine wp_region_steps (fun w' => ∃ X : Exw (fun _ => False) wr, w' = X.W) [.r 0, .r 1, .r 2, .r 3, .r 4, .r 5, .a 6, .r 7] hmo (by kernel_rfl) rfl (by kernel_rfl) (exw_start _ _) (fun _ _ d _ _ h => by cases d <;> exact h) ?_
                  refine wpSteps_r _ _ rfl rfl (by rintro _ ⟨X, rfl⟩; go_simp; exact rfl) ?_
                  go_simp
                  refine wpSteps_r _ _ rfl rfl (by rintro _ ⟨X, rfl⟩; go_simp; exact rfl) ?_
                  go_simp
                  refine wpSteps_r _ _ rfl rfl (by rintro _ ⟨X, rfl⟩; go_simp; exact rfl) ?_
                  go_simp
                  refine wpSteps_r _ _ rfl rfl (by rintro _ ⟨X, rfl⟩; go_simp; exact rfl) ?_
                  go_simp
                  refine wpSteps_r _ _ rfl rfl (by rintro _ ⟨X, rfl⟩; go_simp; exact rfl) ?_
                  go_simp
                  refine wpSteps_r _ _ rfl rfl (by rintro _ ⟨X, rfl⟩; go_simp; exact rfl) ?_
                  go_simp
                  clear x1 x2 x3 x4
                  refine wpSteps_a _ rfl (fun K1 hK1 => ?_)
                  go_wp2_with fail
                  refine (hSzH.out _ (below_drawn wr)).mono ?_
                  rintro e w5 ⟨rfl, hbz⟩
                  have hbz5 := Lib.hid ((below_drawn wr).trans hbz)
                  have hb6 := Lib.hid (hb5.out.trans (hbz5.out.mono hb5.out.size))
                  clear hbz
                  go_wp2
                  refine hK1 _ _ (exw_below hbz5.out) ?_
                  clear hK1 K1
                  refine wpSteps_r _ _ rfl rfl (by rintro _ ⟨X, rfl⟩; go_simp; exact rfl) ?_
                  go_simp
                  refine wpSteps_nil ?_
                  by_cases hle : k2 ≤ zz
                  · have dle : decide (k2 ≤ zz) = true := decide_eq_true hle
                    by_cases heq : k2 = zz
                    · have deq : (k2 == zz) = true := by rw [heq]; exact beq_self_eq_true _
                      have hvk : j < n.vals.length := by rw [hvl.out]; exact hlj
                      have hPe : P = (j, k2, true) := by rw [hp2H.out, if_pos hle, decide_eq_true heq]
                      have hDe : D = some (n.keys[j], n.vals[j]) := by
                        rw [hDP.out, hPe]
                        unfold bat.atGo
                        rw [cond_true]
                        simp [hlj, hvk]
                      obtain ⟨D1, d1, e1, hD1⟩ := row_cellsF (F := fun b => b < wo.heap.size) hownH.out.r1 (fun _ h => h)
                      obtain ⟨D2, d2, e2, hD2⟩ := row_cellsF (F := fun b => b < wo.heap.size) hownH.out.r2 (fun _ h => h)
                      cases e1
                      cases e2
                      obtain ⟨b7, o7, rfl, hbl7, hf7, hcell7⟩ := hD1.num2 hlj
                      obtain ⟨b9, o9, rfl, hbl9, hf9, hcell9⟩ := hD2.num2 hvk
                      have hlo := hb8o.out
                      have hq7 := Lib.hid (show ¬ (b7 = b8) by omega)
                      have hq9 := Lib.hid (show ¬ (b9 = b8) by omega)
                      have hc7 := hcell7 w5 hb6.out
                      have hc9 := hcell9 w5 hb6.out
                      obtain ⟨ya, hya⟩ : ∃ y, n.keys[j] = y := ⟨_, rfl⟩
                      obtain ⟨yv, hyv⟩ : ∃ y, n.vals[j] = y := ⟨_, rfl⟩
                      rw [hya] at hc7 hDe
                      rw [hyv] at hc9 hDe
                      have v12 := Lib.hid (x12H.out.below hb6.out)
                      have v8 := Lib.hid (z8H.out.below hb6.out)
                      have hbw6 := Lib.hid (hbw3.out.trans (hb6.out.mono hbw3.out.size))
                      have hddH := Lib.hid (hDH.out.symm.trans hDe)
                      clear hya hyv hcell7 hcell9 hf7 hf9 hlo hD1 hD2 hDe hPe heq hle
                      have x1 := fun X : Exw (fun b => b = b8) w5 => X.cell (v12.out.at' (i := 0) rfl) hn128.out
                      have x2 := fun X : Exw (fun b => b = b8) w5 => X.cell (v12.out.at' (i := 1) rfl) hn128.out
                      have x3 := fun X : Exw (fun b => b = b8) w5 => X.cell hc7 hq7.out
                      have x4 := fun X : Exw (fun b => b = b8) w5 => X.cell hc9 hq9.out
                      go_wp2
                      refine wp_region_steps (fun w' => ∃ X : Exw (fun b => b = b8) w5, w' = X.W) [.r 0, .r 1, .r 2, .r 3, .r 4, .r 5, .r 6, .r 7, .r 8, .r 9, .r 10, .a 11, .r 12] hmo (by kernel_rfl) rfl (by kernel_rfl) (exw_start _ _) (fun _ _ d _ _ h => by cases d <;> exact h) ?_
                      refine wpSteps_r _ _ rfl rfl (by rintro _ ⟨X, rfl⟩; go_simp; exact rfl) ?_
                      go_simp
                      refine wpSteps_r _ _ rfl rfl (by rintro _ ⟨X, rfl⟩; go_simp; exact rfl) ?_
                      go_simp
                      refine wpSteps_r _ _ rfl rfl (by rintro _ ⟨X, rfl⟩; go_simp; exact rfl) ?_
                      go_simp
                      refine wpSteps_r _ _ rfl rfl (by rintro _ ⟨X, rfl⟩; go_simp; exact rfl) ?_
                      go_simp
                      refine wpSteps_r _ _ rfl rfl (by rintro _ ⟨X, rfl⟩; go_simp; exact rfl) ?_
                      go_simp
                      refine wpSteps_r _ _ rfl rfl (by rintro _ ⟨X, rfl⟩; go_simp; exact rfl) ?_
                      go_simp
                      refine wpSteps_r _ _ rfl rfl (by rintro _ ⟨X, rfl⟩; go_simp; exact rfl) ?_
                      go_simp
                      refine wpSteps_r _ _ rfl rfl (by rintro _ ⟨X, rfl⟩; go_simp; exact rfl) ?_
                      go_simp
                      refine wpSteps_r _ _ rfl rfl (by rintro _ ⟨X, rfl⟩; go_simp; exact rfl) ?_
                      go_simp
                      refine wpSteps_r _ _ rfl rfl (by rintro _ ⟨X, rfl⟩; go_simp; exact rfl) ?_
                      go_simp
                      refine wpSteps_r _ _ rfl rfl (by rintro _ ⟨X, rfl⟩; go_simp; exact rfl) ?_
                      go_simp
                      clear x1 x2 x3 x4
                      have e80 := v8.out.at' (i := 0) rfl
                      have e81 := v8.out.at' (i := 1) rfl
                      have k80 := v8.out.free 0
                      have k81 := v8.out.free 1
                      refine wpSteps_a _ rfl (fun K2 hK2 => ?_)
                      go_wp2
                      refine hK2 _ _ (exw_then (exw_set (B := fun b => b = b8) (p := ⟨b8, 1, none⟩) (exw_set (B := fun b => b = b8) (p := ⟨b8, 0, none⟩) (exw_below (Below.refl _ _)) rfl _) rfl _) (below_drawn _)) ?_
                      clear hK2 K2
                      refine wpSteps_r _ _ rfl rfl (by rintro _ ⟨X, rfl⟩; go_simp; exact rfl) ?_
                      go_simp
                      refine wpSteps_nil ?_
                      have hf := Lib.hid (hfin.out (some (ya, yv)) _ hddH.out (((hbw6.out.setCell (p := ⟨b8, 0, none⟩) g8 (.int .u64 (ya : Nat))).setCell (p := ⟨b8, 1, none⟩) g8 (.int .u64 (yv : Nat))).drew))
                      have hq := Lib.hid (box_drew ((v8.out.set 0 (.int .u64 (ya : Nat))).set 1 (.int .u64 (yv : Nat))))
                      go_wp2
                      have r0 := hq.out.at' (i := 0) rfl
                      have r1 := hq.out.at' (i := 1) rfl
                      refine bodyPost_ret (v := .tuple #[.agg #[.int .u64 (ya : Nat), .int .u64 (yv : Nat)], .int .i64 0]) ?_ ?_ hf.out
                      · simp [results, Tryz.f19, go_sem, r0, r1]
                      · rfl
                    · have deq : (k2 == zz) = false := by simpa using heq
                      have hPe : Hid (P = (j, k2, false)) := Lib.hid (by rw [hp2H.out, if_pos hle, decide_eq_false heq])
                      clear heq hle
                      have hjk9 : j < n.kids.length := by omega
                      have hDn : D = bat R t m n.kids[j] k2 := by
                        rw [hDP.out, hPe.out]
                        unfold bat.atGo
                        rw [cond_false, if_neg hkdH.out]
                        simp [hjk9]
                      obtain ⟨D3, d3, e3, hD3⟩ := row_cellsF (F := fun b => b < wo.heap.size) hownH.out.r3 (fun _ h => h)
                      cases e3
                      obtain ⟨b6, o6, hA3, hbl5, hf5, hcell⟩ := hD3.num2 hjk9
                      cases hA3
                      have hcq9 := hcell w5 hb6.out
                      have f2 := (x12H.out.below hb6.out).at' (i := 2) rfl
                      have hcx := wcH.out j hjk9
                      obtain ⟨y9, hy9⟩ : ∃ yk, n.kids[j] = yk := ⟨_, rfl⟩
                      rw [hy9] at hcq9 hcx hDn
                      have hrel : Hid (D = bat R t (40 - (i + 1)) y9 k2) := Lib.hid (by rw [hDn, show 40 - (i + 1) = m by have := hmH.out; omega])
                      have hb06 := Lib.hid (hb03.out.trans (hb6.out.mono hb03.out.size))
                      clear hDn hy9 hcell hf5 hD3
                      go_wp2
                      go_roundw
                      case rel => exact ⟨i + 1, y9, k2, by omega, hcx, rfl, rfl, by go_num, hrel, hb06⟩
                      case measure => simp [intOf]; omega
                  · have dle : decide (k2 ≤ zz) = false := decide_eq_false hle
                    obtain ⟨z1, hz1⟩ : ∃ z1, z1 = wrap64 (zz + 1) := ⟨_, rfl⟩
                    obtain ⟨k3, hk3⟩ : ∃ k3, k3 = wrap64 (k2 - z1) := ⟨_, rfl⟩
                    have hrel : Hid (P = atScan R t n.kids (n.keys.length - (j + 1)) (j + 1) k3) := Lib.hid (by rw [hp2H.out, if_neg hle, ← hz1, ← hk3, show n.keys.length - (j + 1) = m2 by have := hm2H.out; omega])
                    have w1 : wrap64 (zz + 1) = z1 := hz1.symm
                    have w2 : wrap64 (k2 - z1) = k3 := hk3.symm
                    clear hz1 hk3 hle
                    go_wp2
                    go_roundw
                    case rel => exact ⟨j + 1, k3, by omega, by first | rfl | rw [w2], by go_num, hrel, hb6⟩
                    case measure => simp [intOf]; omega
                · obtain rfl : j = n.keys.length := by omega
                  have dj : decide ((n.keys.length : Int) < (n.keys.length : Int)) = false := decide_eq_false (by omega)
                  have hPe : Hid (P = (n.keys.length, k2, false)) := Lib.hid (by rw [hp.out, Nat.sub_self]; rfl)
                  clear hp
                  have hjk9 : n.keys.length < n.kids.length := by omega
                  have hDn : D = bat R t m n.kids[n.keys.length] k2 := by
                    rw [hDP.out, hPe.out]
                    unfold bat.atGo
                    rw [cond_false, if_neg hkdH.out]
                    simp [hjk9]
                  obtain ⟨D3, d3, e3, hD3⟩ := row_cellsF (F := fun b => b < wo.heap.size) hownH.out.r3 (fun _ h => h)
                  cases e3
                  obtain ⟨b5, o5, hA3, hbl5, hf5, hcell⟩ := hD3.num2 hjk9
                  have hcq9 := hcell wr hb5.out
                  rw [hA3] at f2
                  subst hA3
                  have hcx := wcH.out n.keys.length hjk9
                  obtain ⟨y9, hy9⟩ : ∃ yk, n.kids[n.keys.length] = yk := ⟨_, rfl⟩
                  rw [hy9] at hcq9 hcx hDn
                  have hrel : Hid (D = bat R t (40 - (i + 1)) y9 k2) := Lib.hid (by rw [hDn, show 40 - (i + 1) = m by have := hmH.out; omega])
                  have hb06 := Lib.hid (hb03.out.trans (hb5.out.mono hb03.out.size))
                  clear hDn hy9 hcell hf5 hD3
                  go_wp2
                  go_roundw
                  case rel => exact ⟨i + 1, y9, k2, by omega, hcx, rfl, rfl, by go_num, hrel, hb06⟩
                  case measure => simp [intOf]; omega
          · rw [decide_eq_false he]
            have hDn : batR R t x k = none := by rw [← hDH.out, hd2H.out]; unfold bat; exact if_pos he
            clear he
            have z8 := z8H.out
            have e80 := z8.at' (i := 0) rfl
            have e81 := z8.at' (i := 1) rfl
            have k80 := z8.free 0
            have k81 := z8.free 1
            have hf := Lib.hid (hfin.out none _ hDn ((hbw3.out.setCell (p := ⟨b8, 0, none⟩) g8 (.int .u64 0)).setCell (p := ⟨b8, 1, none⟩) g8 (.int .u64 0)))
            have hq := Lib.hid ((z8.set 0 (.int .u64 0)).set 1 (.int .u64 0))
            clear z8
            clear hDn
            rw [hW3H.out.1] at e80 e81 k80 k81
            go_wp2
            rw [← hW3H.out.1]
            have r0 := hq.out.at' (i := 0) rfl
            have r1 := hq.out.at' (i := 1) rfl
            refine bodyPost_ret (v := .tuple #[.agg #[.int .u64 0, .int .u64 0], .int .i64 2]) (by simp [results, Tryz.f19, go_sem, r0, r1]) rfl hf.out
        · obtain rfl : i = 40 := by omega
          have hDn : batR R t x k = none := by rw [← hDH.out, hd.out]; rfl
          have z8 := (x8H.out.below hb.out)
          have e80 := z8.at' (i := 0) rfl
          have e81 := z8.at' (i := 1) rfl
          have k80 := z8.free 0
          have k81 := z8.free 1
          have hf := Lib.hid (hfin.out none _ hDn ((hbw.out.setCell (p := ⟨b8, 0, none⟩) g8 (.int .u64 0)).setCell (p := ⟨b8, 1, none⟩) g8 (.int .u64 0)))
          have hq := Lib.hid ((z8.set 0 (.int .u64 0)).set 1 (.int .u64 0))
          clear z8
          clear hDn hd
          go_wp2
          have r0 := hq.out.at' (i := 0) rfl
          have r1 := hq.out.at' (i := 1) rfl
          refine bodyPost_ret (v := .tuple #[.agg #[.int .u64 0, .int .u64 0], .int .i64 2]) (by simp [results, Tryz.f19, go_sem, r0, r1]) rfl hf.out
end
end Go.Proofs.YtjcpclcmnhpgpaaGreatDoor

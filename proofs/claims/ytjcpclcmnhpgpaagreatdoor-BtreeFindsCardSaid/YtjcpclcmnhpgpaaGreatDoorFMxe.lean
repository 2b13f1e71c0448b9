/-
  The seat's own texts, part xe: BtW6, BtW7.
-/
import Derived.Test.YtjcpclcmnhpgpaaGreatDoorFMxd

set_option linter.unusedVariables false
set_option linter.unusedSimpArgs false
namespace Go.Proofs.YtjcpclcmnhpgpaaGreatDoor
open Go.RowKit Go.Shelf
def itV : Option (Nat × Nat) → Value
  | some (k, v) => .agg #[.int .u64 (k : Nat), .int .u64 (v : Nat)]
  | none => .agg #[.int .u64 0, .int .u64 0]
theorem CellsF.num2 {w : World} {F : Nat → Prop} {A : Option Addr} {l : List Nat} (h : CellsF w F A (hsV l)) {k : Nat} (hk : k < l.length) : ∃ b o, A = some ⟨b, o, none⟩ ∧ b < w.heap.size ∧ ¬ F b ∧ ∀ W, Below w.heap.size w W → W.cell? ⟨b, o + k, none⟩ = some (.int .u64 (l[k] : Nat)) := by
  rcases h with h | ⟨b, o, h1, h2, h3, h4⟩
  · have h9 := congrArg List.length h
    rw [hsV_len] at h9
    have h8 : l.length = 0 := h9
    omega
  · exact ⟨b, o, h1, h2, h3, fun W hb => (hb.cell (p := ⟨b, o + k, none⟩) h2).trans (h4 k _ (hsV_get hk))⟩
theorem box_drew {W : World} {b : Nat} {T : TypeId} {vs : List Value} (h : Box W b T vs) : Box W.drew b T vs := h.block rfl
section
variable {w w' : World} {s N : Nat} {R : Nat → Option (List Nat)} {nn : Nat}
set_option maxHeartbeats 8000000 in
set_option maxRecDepth 100000 in
theorem btDown_at (h : Rd N w s R nn) (hsh : Short R) {t : Nat} (ht : BN.Deg t) (x : Nat) (hx : x < 18446744073709551616) (key : ByteArray) :
    Calls Tryz.prog 45 #[.agg #[.pointer (some ⟨s, 0, none⟩), .int .i64 (t : Nat)], .int .u64 (x : Nat), .string key] w fun e w' => e = .returned (.tuple #[itV (bdown R t key 40 x 0).1, .bool (bdown R t key 40 x 0).1.isSome, .int .i64 (bdown R t key 40 x 0).2]) ∧ Below w.heap.size w w' := by
  have hmo : Tryz.prog.follows .mixedOrders = true := by kernel_rfl
  have hH := Lib.hid h
  have htH := Lib.hid ht
  obtain ⟨W0, hW0⟩ : ∃ W, W = (w.alloc (Obj.cells #[.pointer (some ⟨s, 0, none⟩), .int .i64 (t : Nat)] 88)).alloc (Obj.cells #[.int .u64 0, .int .u64 0] 33) := ⟨_, rfl⟩
  have hb0 : Below w.heap.size w W0 := by rw [hW0]; exact ((Below.refl _ w).alloc (Nat.le_refl _) _).alloc (by simp) _
  obtain ⟨b3, hb3⟩ : ∃ b, b = w.heap.size := ⟨_, rfl⟩
  obtain ⟨b6, hb6⟩ : ∃ b, b = w.heap.size + 1 := ⟨_, rfl⟩
  have x3 : Box W0 b3 88 [.pointer (some ⟨s, 0, none⟩), .int .i64 (t : Nat)] := by rw [hW0, hb3]; exact (Box.new w 88 [.pointer (some ⟨s, 0, none⟩), .int .i64 (t : Nat)]).alloc _
  have x6 : Box W0 b6 33 [.int .u64 0, .int .u64 0] := by
    rw [hW0, hb6]
    have := Box.new (w.alloc (Obj.cells #[.pointer (some ⟨s, 0, none⟩), .int .i64 (t : Nat)] 88)) 33 [.int .u64 0, .int .u64 0]
    rwa [show (w.alloc (Obj.cells #[.pointer (some ⟨s, 0, none⟩), .int .i64 (t : Nat)] 88)).heap.size = w.heap.size + 1 by simp] at this
  have g3 : w.heap.size ≤ b3 := by omega
  have g6 : w.heap.size ≤ b6 := by omega
  have hne : b3 ≠ b6 := by omega
  have hW0H := Lib.hid (And.intro hW0 (And.intro hb3 hb6))
  have hb0H := Lib.hid hb0
  have x3H := Lib.hid x3
  have x6H := Lib.hid x6
  have hfin : Hid (∀ o b W, bdown R t key 40 x 0 = (o, b) → Below w.heap.size w W → (Ending.returned (.tuple #[itV o, .bool o.isSome, .int .i64 b]) = Ending.returned (.tuple #[itV (bdown R t key 40 x 0).1, .bool (bdown R t key 40 x 0).1.isSome, .int .i64 (bdown R t key 40 x 0).2]) ∧ Below w.heap.size w W)) := Lib.hid (fun o b W h1 h2 => ⟨by rw [h1], h2⟩)
  obtain ⟨D, hD⟩ : ∃ D, D = bdown R t key 40 x 0 := ⟨_, rfl⟩
  have hDH := Lib.hid hD
  clear h ht hW0 hb3 hb6 x3 x6 hb0 hD
  go_enter Tryz.func45, Tryz.ntmps45
  go_wp2
  rw [← hW0H.out.1, ← hW0H.out.2.2, ← hW0H.out.2.1]
  go_loopw [1, 8, 14] (fun hv bv iv wr => ∃ (i x' : Nat) (b : Int), i ≤ 40 ∧ x' < 18446744073709551616 ∧ hv = .int .u64 x' ∧ bv = .int .i64 b ∧ iv = .int .i64 i ∧ Hid (D = bdown R t key (40 - i) x' b) ∧ Hid (Below W0.heap.size W0 wr)) (fun _ _ iv _ => 40 - (intOf iv).toNat)
  case atStart => exact ⟨0, x, 0, by omega, hx, rfl, rfl, rfl, hDH, Lib.hid (Below.refl _ _)⟩
  case round =>
    obtain ⟨i, y, b, hi, hy, rfl, rfl, rfl, hd, hb⟩ := hrel
    have hbw := hb0H.out.trans (hb.out.mono hb0H.out.size)
    have hbwH := Lib.hid hbw
    have y6 := Lib.hid (x6H.out.below hb.out)
    have y3 := Lib.hid (x3H.out.below hb.out)
    have e60 := y6.out.at' (i := 0) rfl
    have e61 := y6.out.at' (i := 1) rfl
    have k60 := y6.out.free 0
    have k61 := y6.out.free 1
    have e30 := y3.out.at' (i := 0) rfl
    have e31 := y3.out.at' (i := 1) rfl
    by_cases hlt : i < 40
    · have hGt := Lib.hid (btGet_at (hH.out.below hbw) t htH.out y hy)
      obtain ⟨m, hm⟩ : ∃ m, 40 - i = m + 1 := ⟨39 - i, by omega⟩
      clear hbw
      go_wp2_with fail
      refine hGt.out.mono ?_
      rintro e w2 ⟨v1, v2, v3, rfl, hown, hb2⟩
      obtain ⟨A1, q1, rfl⟩ := ownN_form hown.r1
      obtain ⟨A2, q2, rfl⟩ := ownN_form hown.r2
      obtain ⟨A3, q3, rfl⟩ := ownN_form hown.r3
      obtain ⟨n, hn⟩ : ∃ n, n = bnG R t y := ⟨_, rfl⟩
      have hd2 : D = bdown R t key (m + 1) y b := by rw [← hm]; exact hd.out
      rw [← hn] at hown
      rw [← hn]
      obtain ⟨W3, hW3⟩ : ∃ W, W = w2.alloc (Obj.cells #[.slice A1 n.keys.length q1, .slice A2 n.vals.length q2, .slice A3 n.kids.length q3, .int .u64 (n.size : Nat)] 66) := ⟨_, rfl⟩
      obtain ⟨b9, hb9⟩ : ∃ b, b = w2.heap.size := ⟨_, rfl⟩
      have hb23 : Below w2.heap.size w2 W3 := by rw [hW3]; exact (Below.refl _ _).alloc (Nat.le_refl _) _
      have hn96 := Lib.hid (show b9 ≠ b6 by have := y6.out.lt; have := hb2.size; omega)
      have hb6o := Lib.hid y6.out.lt
      have x9 : Box W3 b9 66 [.slice A1 n.keys.length q1, .slice A2 n.vals.length q2, .slice A3 n.kids.length q3, .int .u64 (n.size : Nat)] := by rw [hW3, hb9]; exact Box.new w2 66 [.slice A1 n.keys.length q1, .slice A2 n.vals.length q2, .slice A3 n.kids.length q3, .int .u64 (n.size : Nat)]
      have hbr3 : Below wr.heap.size wr W3 := hb2.trans (hb23.mono hb2.size)
      have z6 := Lib.hid (y6.out.below hbr3)
      have z3 := Lib.hid (y3.out.below hbr3)
      have hbw3 := Lib.hid (hbwH.out.trans (hbr3.mono hbwH.out.size))
      have hb03 := Lib.hid (hb.out.trans (hbr3.mono hb.out.size))
      have hW3H := Lib.hid (And.intro hW3 hb9)
      have hnH := Lib.hid hn
      have x9H := Lib.hid x9
      have hownH := Lib.hid (hown.below hb23)
      have hd2H := Lib.hid hd2
      have hmH := Lib.hid hm
      clear e60 e61 k60 k61 e30 e31 hGt hb2 hown hn hW3 hb9 hb23 hbr3 x9 hd2 hd hb y6 y3 hbwH hm
      by_cases he : bnE R t y = 0
      · rw [decide_eq_true he]
        have hw := bnG_words hH.out htH.out he
        rw [← hnH.out] at hw
        obtain ⟨hfit, wk, wv, wc, hsz⟩ := hw
        have t2 := htH.out.2
        obtain ⟨g1, g2, g3'⟩ := hfit
        have l1 : n.keys.length ≤ 31 := by omega
        have l3 : n.kids.length ≤ 32 := by rcases g3' with h9 | h9
                                           · rw [h9]; simp
                                           · omega
        have hV : BNV W3 (fun _ => False) (.agg #[.slice A1 n.keys.length q1, .slice A2 n.vals.length q2, .slice A3 n.kids.length q3, .int .u64 (n.size : Nat)]) n := hownH.out.bnv (F := fun _ => False) (fun _ h => h.elim) n.size (by omega) (by omega) (by omega)
        have hPl := btPlace_at (hH.out.below hbw3.out) hsh hV t wk key
        obtain ⟨k, hk⟩ : ∃ k, k = plK R n.keys key := ⟨_, rfl⟩
        obtain ⟨hb, hhb⟩ : ∃ hb, hb = plH R n.keys key := ⟨_, rfl⟩
        have hkl : k ≤ n.keys.length := by rw [hk]; exact (bsF_le _ _ 0 _ (Nat.zero_le _)).2
        have hhl : hb = true → k < n.keys.length := by rw [hk, hhb]; unfold plH; simp; intro h1 _; exact h1
        rw [← hk, ← hhb] at hPl
        have hst : D = bdown.bstep R t n k hb b (bdown R t key m) := by rw [hd2H.out, hk, hhb, hnH.out]; conv => lhs; unfold bdown
                                                                        exact if_neg (fun h => h he)
        have hstH := Lib.hid hst
        have hPlH := Lib.hid hPl
        have hkids : Hid (n.kids = [] ∨ n.kids.length = n.keys.length + 1) := Lib.hid (g3'.imp id And.left)
        have hhlH := Lib.hid hhl
        have hvl := Lib.hid g2
        have wkH := Lib.hid (And.intro wk (And.intro wv wc))
        have e30 := z3.out.at' (i := 0) rfl
        have e31 := z3.out.at' (i := 1) rfl
        rw [hW3H.out.1] at e30 e31
        clear hV hPl hk hhb hst hhl g2 g3' wk wv wc hsz he hd2H
        go_wp2_with fail
        rw [← hW3H.out.1, ← hW3H.out.2]
        refine hPlH.out.mono ?_
        rintro e w4 ⟨rfl, hb4⟩
        have u3 := Lib.hid (z3.out.below hb4)
        have u6 := Lib.hid (z6.out.below hb4)
        have u9 := Lib.hid (x9H.out.below hb4)
        have uo := Lib.hid (hownH.out.below hb4)
        have hbw4 := Lib.hid (hbw3.out.trans (hb4.mono hbw3.out.size))
        have hb04 := Lib.hid (hb03.out.trans (hb4.mono hb03.out.size))
        obtain ⟨B1, p1, e1, hC1⟩ := row_cellsF (F := fun _ => False) uo.out.r1 (fun _ h => h.elim)
        obtain ⟨B2, p2, e2, hC2⟩ := row_cellsF (F := fun _ => False) uo.out.r2 (fun _ h => h.elim)
        obtain ⟨B3, p3, e3, hC3⟩ := row_cellsF (F := fun _ => False) uo.out.r3 (fun _ h => h.elim)
        cases e1
        cases e2
        cases e3
        have hC1H := Lib.hid hC1
        have hC2H := Lib.hid hC2
        have hC3H := Lib.hid hC3
        obtain ⟨S, hS⟩ : ∃ S : Nat → Int, S = fun j => sumSz R t (n.kids.take j) (wrap64 (b + (k : Nat))) := ⟨_, rfl⟩
        have hSH := Lib.hid hS
        have hS0 : S 0 = wrap64 (b + (k : Nat)) := by rw [hS]; rfl
        have hS0H := Lib.hid hS0
        have hSs : Hid (∀ j (hj : j < n.kids.length), S (j + 1) = wrap64 (S j + bszR R t n.kids[j])) := Lib.hid (fun j hj => by
          rw [hS]
          simp only [List.take_succ_eq_append_getElem hj]
          unfold sumSz
          rw [List.foldl_append]
          rfl)
        obtain ⟨lim, hlim⟩ : ∃ l, l = if n.kids = [] then 0 else k := ⟨_, rfl⟩
        have hlimH := Lib.hid hlim
        have w0 : wrap64 (b + (k : Int)) = S 0 := hS0.symm
        clear hb4 z3 z6 x9H hownH hbw3 hb03 hPlH hC1 hC2 hC3 hS hS0 hlim hW3H e30 e31
        obtain ⟨wo, rfl⟩ : ∃ wo, wo = wr := ⟨_, rfl⟩
        go_wp2
        go_loopw [8, 13] (fun bv jv wr2 => ∃ j : Nat, j ≤ lim ∧ bv = .int .i64 (S j) ∧ jv = .int .i64 j ∧ Hid (Below w4.heap.size w4 wr2)) (fun _ jv _ => lim - (intOf jv).toNat)
        case atStart => exact ⟨0, by omega, by first | rfl | rw [hS0H.out], rfl, Lib.hid (Below.refl _ _)⟩
        case round =>
          obtain ⟨j, hj, rfl, rfl, hb5⟩ := hrel
          have hb5w := Lib.hid (hbw4.out.trans (hb5.out.mono hbw4.out.size))
          by_cases hlt : j < lim
          · have hk0 : n.kids ≠ [] := fun e => by have h9 := hlimH.out; rw [if_pos e] at h9; omega
            have hjk : j < k := by have h9 := hlimH.out; rw [if_neg hk0] at h9; omega
            have hk1 : 0 < n.kids.length := List.length_pos_iff.2 hk0
            have hjl : j < n.kids.length := by rcases hkids.out with h9 | h9
                                               · exact absurd h9 hk0
                                               · omega
            have d1 : decide ((n.kids.length : Int) > 0) = true := decide_eq_true (by omega)
            have d2 : decide ((j : Int) < (k : Int)) = true := decide_eq_true (by omega)
            obtain ⟨b5, o5, rfl, hbl5, hcell⟩ := hC3H.out.num hjl
            have hcq := hcell wr hb5.out
            have hSz := fun W (hb : Below wr.heap.size wr W) => btSize_at (hH.out.below (hb5w.out.trans (hb.mono hb5w.out.size))) t htH.out n.kids[j] (wkH.out.2.2 j hjl)
            have hSj := hSs.out j hjl
            obtain ⟨yk, hyk⟩ : ∃ yk, n.kids[j] = yk := ⟨_, rfl⟩
            rw [hyk] at hcq hSz hSj
            generalize bszR R t yk = zz at *
            have hSzH := Lib.hid hSz
            have hykH := Lib.hid hyk
            have x1 := fun X : Bel wr => X.cell ((u3.out.below hb5.out).at' (i := 0) rfl)
            have x2 := fun X : Bel wr => X.cell ((u3.out.below hb5.out).at' (i := 1) rfl)
            have x3 := fun X : Bel wr => X.cell ((u9.out.below hb5.out).at' (i := 2) rfl)
            have x4 := fun X : Bel wr => X.cell hcq
            have w5 : wrap64 (S j + zz) = S (j + 1) := hSj.symm
            have f2 := (u9.out.below hb5.out).at' (i := 2) rfl
            clear hSz hyk hSj hcell hk0
            go_wp2
            refine wp_region_calm hmo (by kernel_rfl) ?_
            repeat (go_big_quiet_step ((go_at_call 44; exact calls_calm (hSzH.out _ (Bel.h _)))))
            refine wpQuiet_nil ?_
            rintro _ ⟨X, rfl⟩
            have hbX := Lib.hid (hb5.out.trans (X.h.mono hb5.out.size))
            clear x1 x2 x3 x4
            go_wp2
            go_roundw
            case rel => exact ⟨j + 1, by omega, by first | rfl | rw [w5], by go_num, hbX⟩
            case measure => simp [intOf]; omega
          · obtain rfl : j = lim := by omega
            have hSk : sumSz R t (n.kids.take k) (wrap64 (b + (k : Nat))) = S j := by
              rw [hSH.out]
              by_cases hk0 : n.kids = []
              · simp [hk0]
              · have h9 := hlimH.out
                rw [if_neg hk0] at h9
                rw [h9]
            have hst2' := hstH.out
            unfold bdown.bstep at hst2'
            rw [hSk] at hst2'
            clear hSk
            by_cases hk0 : n.kids = []
            · have hkz : n.kids.length = 0 := by rw [hk0]; rfl
              have hst2 := hst2'
              rw [if_pos hk0, if_pos hk0] at hst2
              cases hb with
              | true =>
                simp only [cond_true] at hst2
                have hkk := hhlH.out rfl
                have hvk : k < n.vals.length := by rw [hvl.out]; exact hkk
                obtain ⟨b7, o7, rfl, hbl7, hcell7⟩ := hC1H.out.num hkk
                obtain ⟨b8, o8, rfl, hbl8, hcell8⟩ := hC2H.out.num hvk
                have hc7 := hcell7 wr hb5.out
                have hc8 := hcell8 wr hb5.out
                rw [show n.keys.getD k 0 = n.keys[k] by simp [hkk], show n.vals.getD k 0 = n.vals[k] by simp [hvk]] at hst2
                obtain ⟨ya, hya⟩ : ∃ y, n.keys[k] = y := ⟨_, rfl⟩
                obtain ⟨yv, hyv⟩ : ∃ y, n.vals[k] = y := ⟨_, rfl⟩
                rw [hya] at hc7 hst2
                rw [hyv] at hc8 hst2
                clear hya hyv hcell7 hcell8
                have x1 := fun X : Bel wr => X.cell ((u9.out.below hb5.out).at' (i := 0) rfl)
                have x2 := fun X : Bel wr => X.cell ((u9.out.below hb5.out).at' (i := 1) rfl)
                have x3 := fun X : Bel wr => X.cell hc7
                have x4 := fun X : Bel wr => X.cell hc8
                have f2 := (u9.out.below hb5.out).at' (i := 2) rfl
                have hdd := hDH.out.symm.trans hst2
                have hddH := Lib.hid hdd
                clear hdd hst2 hst2'
                have f0 := (u9.out.below hb5.out).at' (i := 0) rfl
                have f1 := (u9.out.below hb5.out).at' (i := 1) rfl
                have v6 := u6.out.below hb5.out
                have e60 := v6.at' (i := 0) rfl
                have e61 := v6.at' (i := 1) rfl
                have k60 := v6.free 0
                have k61 := v6.free 1
                have hf := Lib.hid (hfin.out (some (ya, yv)) (S j) _ hddH.out ((hb5w.out.setCell (p := ⟨b6, 0, none⟩) g6 (.int .u64 (ya : Nat))).setCell (p := ⟨b6, 1, none⟩) g6 (.int .u64 (yv : Nat))).drew)
                have hq0 := (v6.set 0 (.int .u64 (ya : Nat))).set 1 (.int .u64 (yv : Nat))
                have hq := Lib.hid (box_drew hq0)
                clear x1 x2 x3 x4 v6 hq0
                go_wp2
                go_region_with (fail)
                all_goals
                  go_wp2
                  have r0 := hq.out.at' (i := 0) rfl
                  have r1 := hq.out.at' (i := 1) rfl
                  refine bodyPost_ret (v := .tuple #[.agg #[.int .u64 (ya : Nat), .int .u64 (yv : Nat)], .bool true, .int .i64 (S j)]) ?_ ?_ hf.out
                  · simp [results, Tryz.f45, go_sem, r0, r1]
                  · rfl
              | false =>
                simp only [cond_false] at hst2
                have hdd := hDH.out.symm.trans hst2
                have v6 := u6.out.below hb5.out
                have e60 := v6.at' (i := 0) rfl
                have e61 := v6.at' (i := 1) rfl
                have k60 := v6.free 0
                have k61 := v6.free 1
                have f2 := (u9.out.below hb5.out).at' (i := 2) rfl
                have hf := Lib.hid (hfin.out none (S j) _ hdd ((hb5w.out.setCell (p := ⟨b6, 0, none⟩) g6 (.int .u64 0)).setCell (p := ⟨b6, 1, none⟩) g6 (.int .u64 0)))
                have hq := Lib.hid ((v6.set 0 (.int .u64 0)).set 1 (.int .u64 0))
                clear hdd hst2 hst2' v6
                go_wp2
                have r0 := hq.out.at' (i := 0) rfl
                have r1 := hq.out.at' (i := 1) rfl
                refine bodyPost_ret (v := .tuple #[.agg #[.int .u64 0, .int .u64 0], .bool false, .int .i64 (S j)]) (by simp [results, Tryz.f45, go_sem, r0, r1]) rfl hf.out
            · have hkz : 0 < n.kids.length := List.length_pos_iff.2 hk0
              have hjk : ¬ j < k := by have h9 := hlimH.out; rw [if_neg hk0] at h9; omega
              have hst2 := hst2'
              rw [if_neg hk0, if_neg hk0] at hst2
              cases hb with
              | true =>
                simp only [cond_true] at hst2
                have hkk := hhlH.out rfl
                have hvk : k < n.vals.length := by rw [hvl.out]; exact hkk
                have hkj : k < n.kids.length := by rcases hkids.out with h9 | h9
                                                   · exact absurd h9 hk0
                                                   · omega
                obtain ⟨D1, d1, e1, hD1⟩ := row_cellsF (F := fun b => b < wo.heap.size) uo.out.r1 (fun _ h => h)
                obtain ⟨D2, d2, e2, hD2⟩ := row_cellsF (F := fun b => b < wo.heap.size) uo.out.r2 (fun _ h => h)
                obtain ⟨D3, d3, e3, hD3⟩ := row_cellsF (F := fun b => b < wo.heap.size) uo.out.r3 (fun _ h => h)
                cases e1
                cases e2
                cases e3
                obtain ⟨b7, o7, rfl, hbl7, hf7, hcell7⟩ := hD1.num2 hkk
                obtain ⟨b8, o8, rfl, hbl8, hf8, hcell8⟩ := hD2.num2 hvk
                obtain ⟨b5, o5, rfl, hbl5, hf5, hcell⟩ := hD3.num2 hkj
                have hlo := hb6o.out
                have hq7 := Lib.hid (show ¬ (b7 = b6) by omega)
                have hq8 := Lib.hid (show ¬ (b8 = b6) by omega)
                have hq5 := Lib.hid (show ¬ (b5 = b6) by omega)
                have hc7 := hcell7 wr hb5.out
                have hc8 := hcell8 wr hb5.out
                have hcq := hcell wr hb5.out
                clear hf7 hf8 hf5 hlo hD1 hD2 hD3
                rw [show n.keys.getD k 0 = n.keys[k] by simp [hkk], show n.vals.getD k 0 = n.vals[k] by simp [hvk]] at hst2
                obtain ⟨ya, hya⟩ : ∃ y, n.keys[k] = y := ⟨_, rfl⟩
                obtain ⟨yv, hyv⟩ : ∃ y, n.vals[k] = y := ⟨_, rfl⟩
                rw [hya] at hc7 hst2
                rw [hyv] at hc8 hst2
                have hSz := fun W (hb : Below wr.heap.size wr W) => btSize_at (hH.out.below (hb5w.out.trans (hb.mono hb5w.out.size))) t htH.out n.kids[k] (wkH.out.2.2 k hkj)
                rw [show n.kids.getD k 0 = n.kids[k] by simp [hkj]] at hst2
                obtain ⟨yk, hyk⟩ : ∃ yk, n.kids[k] = yk := ⟨_, rfl⟩
                rw [hyk] at hcq hSz hst2
                generalize bszR R t yk = zz at *
                have hSzH := Lib.hid hSz
                obtain ⟨bb, hbb⟩ : ∃ bb, bb = wrap64 (S j + zz) := ⟨_, rfl⟩
                have w6 : wrap64 (S j + zz) = bb := hbb.symm
                rw [w6] at hst2
                have hdd := hDH.out.symm.trans hst2
                have hddH := Lib.hid hdd
                clear hya hyv hcell7 hcell8 hSz hyk hcell hbb hdd hst2 hst2'
                have x1 := fun X : Exw (fun b => b = b6) wr => X.cell ((u9.out.below hb5.out).at' (i := 0) rfl) hn96.out
                have x2 := fun X : Exw (fun b => b = b6) wr => X.cell ((u9.out.below hb5.out).at' (i := 1) rfl) hn96.out
                have x3 := fun X : Exw (fun b => b = b6) wr => X.cell ((u9.out.below hb5.out).at' (i := 2) rfl) hn96.out
                have x4 := fun X : Exw (fun b => b = b6) wr => X.cell hc7 hq7.out
                have x5 := fun X : Exw (fun b => b = b6) wr => X.cell hc8 hq8.out
                have x6 := fun X : Exw (fun b => b = b6) wr => X.cell hcq hq5.out
                have x7 := fun X : Exw (fun b => b = b6) wr => X.cell ((u3.out.below hb5.out).at' (i := 0) rfl) hne
                have x8 := fun X : Exw (fun b => b = b6) wr => X.cell ((u3.out.below hb5.out).at' (i := 1) rfl) hne
                have f2 := (u9.out.below hb5.out).at' (i := 2) rfl
                have d1 : decide ((n.kids.length : Int) > 0) = true := decide_eq_true (by omega)
                go_wp2
                refine wp_region_steps (fun w' => ∃ X : Exw (fun b => b = b6) wr, w' = X.W) [.r 0, .r 1, .r 2, .r 3, .r 4, .r 5, .r 6, .r 7, .r 8, .r 9, .r 10, .r 11, .r 12, .r 13, .r 14, .r 15, .r 16, .r 17, .a 18, .r 19, .a 20, .r 21, .r 22] hmo (by kernel_rfl) rfl (by kernel_rfl) (exw_start _ _) (fun _ _ d _ _ h => by cases d <;> exact h) ?_
                refine wpSteps_r _ _ rfl rfl (by rintro _ ⟨X, rfl⟩; go_simp; exact rfl) ?_
                go_simp
                refine wpSteps_r _ _ rfl rfl (by rintro _ ⟨X, rfl⟩; go_simp; exact rfl) ?_
                go_simp
                refine wpSteps_r _ _ rfl rfl (by rintro _ ⟨X, rfl⟩; go_simp; exact rfl) ?_
                go_simp
                refine wpSteps_r _ _ rfl rfl (by rintro _ ⟨X, rfl⟩; go_simp; exact rfl) ?_
                go_simp
                refine wpSteps_r _ _ rfl rfl (by rintro _ ⟨X, rfl⟩; go_simp; exact rfl) ?_
                go_simp
                refine wpSteps_r _ _ rfl rfl (by rintro _ ⟨X, rfl⟩; go_simp; exact rfl) ?_
                go_simp
                refine wpSteps_r _ _ rfl rfl (by rintro _ ⟨X, rfl⟩; go_simp; exact rfl) ?_
                go_simp
                refine wpSteps_r _ _ rfl rfl (by rintro _ ⟨X, rfl⟩; go_simp; exact rfl) ?_
                go_simp
                refine wpSteps_r _ _ rfl rfl (by rintro _ ⟨X, rfl⟩; go_simp; exact rfl) ?_
                go_simp
                refine wpSteps_r _ _ rfl rfl (by rintro _ ⟨X, rfl⟩; go_simp; exact rfl) ?_
                go_simp
                refine wpSteps_r _ _ rfl rfl (by rintro _ ⟨X, rfl⟩; go_simp; exact rfl) ?_
                go_simp
                refine wpSteps_r _ _ rfl rfl (by rintro _ ⟨X, rfl⟩; go_simp; exact rfl) ?_
                go_simp
                refine wpSteps_r _ _ rfl rfl (by rintro _ ⟨X, rfl⟩; go_simp; exact rfl) ?_
                go_simp
                refine wpSteps_r _ _ rfl rfl (by rintro _ ⟨X, rfl⟩; go_simp; exact rfl) ?_
                go_simp
                refine wpSteps_r _ _ rfl rfl (by rintro _ ⟨X, rfl⟩; go_simp; exact rfl) ?_
                go_simp
                refine wpSteps_r _ _ rfl rfl (by rintro _ ⟨X, rfl⟩; go_simp; exact rfl) ?_
                go_simp
                refine wpSteps_r _ _ rfl rfl (by rintro _ ⟨X, rfl⟩; go_simp; exact rfl) ?_
                go_simp
                refine wpSteps_r _ _ rfl rfl (by rintro _ ⟨X, rfl⟩; go_simp; exact rfl) ?_
                go_simp
                clear x1 x2 x3 x4 x5 x6 x7 x8
                refine wpSteps_a _ rfl (fun K1 hK1 => ?_)
                go_wp2_with fail
                refine (hSzH.out _ (below_drawn wr)).mono ?_
                rintro e w5 ⟨rfl, hbz⟩
                have hbw5 := Lib.hid ((below_drawn wr).trans hbz)
                go_wp2
                refine hK1 _ _ (exw_below hbw5.out) ?_
                clear hK1 K1
                refine wpSteps_r _ _ rfl rfl (by rintro _ ⟨X, rfl⟩; go_simp; exact rfl) ?_
                go_simp
                have v6 := Lib.hid ((u6.out.below hb5.out).below hbw5.out)
                have e60 := v6.out.at' (i := 0) rfl
                have e61 := v6.out.at' (i := 1) rfl
                have k60 := v6.out.free 0
                have k61 := v6.out.free 1
                refine wpSteps_a _ rfl (fun K2 hK2 => ?_)
                go_wp2
                refine hK2 _ _ (exw_set (B := fun b => b = b6) (p := ⟨b6, 1, none⟩) (exw_set (B := fun b => b = b6) (p := ⟨b6, 0, none⟩) (exw_below hbw5.out) rfl _) rfl _) ?_
                clear hK2 K2
                refine wpSteps_r _ _ rfl rfl (by rintro _ ⟨X, rfl⟩; go_simp; exact rfl) ?_
                go_simp
                refine wpSteps_r _ _ rfl rfl (by rintro _ ⟨X, rfl⟩; go_simp; exact rfl) ?_
                go_simp
                refine wpSteps_nil ?_
                have hf := Lib.hid (hfin.out (some (ya, yv)) bb _ hddH.out (((hb5w.out.trans (hbw5.out.mono hb5w.out.size)).setCell (p := ⟨b6, 0, none⟩) g6 (.int .u64 (ya : Nat))).setCell (p := ⟨b6, 1, none⟩) g6 (.int .u64 (yv : Nat))))
                have hq := Lib.hid ((v6.out.set 0 (.int .u64 (ya : Nat))).set 1 (.int .u64 (yv : Nat)))
                go_wp2
                have r0 := hq.out.at' (i := 0) rfl
                have r1 := hq.out.at' (i := 1) rfl
                refine bodyPost_ret (v := .tuple #[.agg #[.int .u64 (ya : Nat), .int .u64 (yv : Nat)], .bool true, .int .i64 bb]) ?_ ?_ hf.out
                · simp [results, Tryz.f45, go_sem, r0, r1]
                · rfl
              | false =>
                simp only [cond_false] at hst2
                have hkj : k < n.kids.length := by rcases hkids.out with h9 | h9
                                                   · exact absurd h9 hk0
                                                   · omega
                obtain ⟨b5, o5, rfl, hbl5, hcell⟩ := hC3H.out.num hkj
                have hcq := hcell wr hb5.out
                have hky := wkH.out.2.2 k hkj
                rw [show n.kids.getD k 0 = n.kids[k] by simp [hkj]] at hst2
                obtain ⟨yk, hyk⟩ : ∃ yk, n.kids[k] = yk := ⟨_, rfl⟩
                rw [hyk] at hcq hky hst2
                have hrel : Hid (D = bdown R t key (40 - (i + 1)) yk (S j)) := Lib.hid (by rw [show 40 - (i + 1) = m by have := hmH.out; omega]; exact hst2)
                have hb05 := Lib.hid (hb04.out.trans (hb5.out.mono hb04.out.size))
                have f2 := (u9.out.below hb5.out).at' (i := 2) rfl
                clear hyk hcell hst2 hst2' hk0
                go_wp2
                go_roundw
                case rel => exact ⟨i + 1, yk, S j, by omega, hky, rfl, rfl, by go_num, hrel, hb05⟩
                case measure => simp [intOf]; omega
      · rw [decide_eq_false he]
        have heH := Lib.hid he
        clear he
        have e60 := z6.out.at' (i := 0) rfl
        have e61 := z6.out.at' (i := 1) rfl
        have k60 := z6.out.free 0
        have k61 := z6.out.free 1
        rw [hW3H.out.1] at e60 e61 k60 k61
        go_wp2
        rw [← hW3H.out.1]
        have hdd : bdown R t key 40 x 0 = (none, b) := by rw [← hDH.out, hd2H.out]; unfold bdown; exact if_pos heH.out
        have hf := hfin.out none b _ hdd ((hbw3.out.setCell (p := ⟨b6, 0, none⟩) g6 (.int .u64 0)).setCell (p := ⟨b6, 1, none⟩) g6 (.int .u64 0))
        have hq := (z6.out.set 0 (.int .u64 0)).set 1 (.int .u64 0)
        have r0 := hq.at' (i := 0) rfl
        have r1 := hq.at' (i := 1) rfl
        refine bodyPost_ret (v := .tuple #[.agg #[.int .u64 0, .int .u64 0], .bool false, .int .i64 b]) (by simp [results, Tryz.f45, go_sem, r0, r1]) rfl hf
    · obtain rfl : i = 40 := by omega
      have hdd : bdown R t key 40 x 0 = (none, b) := by rw [← hDH.out, hd.out]; rfl
      have hf := Lib.hid (hfin.out none b _ hdd ((hbw.setCell (p := ⟨b6, 0, none⟩) g6 (.int .u64 0)).setCell (p := ⟨b6, 1, none⟩) g6 (.int .u64 0)))
      have hq := Lib.hid ((y6.out.set 0 (.int .u64 0)).set 1 (.int .u64 0))
      clear hbw hdd
      go_wp2
      have r0 := hq.out.at' (i := 0) rfl
      have r1 := hq.out.at' (i := 1) rfl
      refine bodyPost_ret (v := .tuple #[.agg #[.int .u64 0, .int .u64 0], .bool false, .int .i64 b]) (by simp [results, Tryz.f45, go_sem, r0, r1]) rfl hf.out
end
end Go.Proofs.YtjcpclcmnhpgpaaGreatDoor

set_option linter.unusedVariables false
set_option linter.unusedSimpArgs false
namespace Go.Proofs.YtjcpclcmnhpgpaaGreatDoor
open Go.RowKit Go.Shelf
theorem itV_form (o : Option (Nat × Nat)) : ∃ a b : Nat, itV o = .agg #[.int .u64 (a : Nat), .int .u64 (b : Nat)] := by
  cases o with
  | none => exact ⟨0, 0, rfl⟩
  | some p => exact ⟨p.1, p.2, rfl⟩
section
variable {w w' : World} {s N : Nat} {R : Nat → Option (List Nat)} {nn : Nat}
set_option maxHeartbeats 2000000 in
set_option maxRecDepth 100000 in
theorem btFind_at (h : Rd N w s R nn) (hsh : Short R) {t : Nat} (ht : BN.Deg t) (x : Nat) (hx : x < 18446744073709551616) (key : ByteArray) :
    Calls Tryz.prog 15 #[.pointer (some ⟨s, 0, none⟩), .int .i64 (t : Nat), .int .u64 (x : Nat), .string key] w fun e w' => e = .returned (.tuple #[itV (bdown R t key 40 x 0).1, .bool (bdown R t key 40 x 0).1.isSome]) ∧ Below w.heap.size w w' := by
  have hb0 : Below w.heap.size w (w.alloc (Obj.cells #[.int .u64 0, .int .u64 0] 33)) := (Below.refl _ w).alloc (Nat.le_refl _) _
  have hD := btDown_at (h.below hb0) hsh ht x hx key
  obtain ⟨a, b, hab⟩ := itV_form (bdown R t key 40 x 0).1
  rw [hab] at hD ⊢
  generalize (bdown R t key 40 x 0).1.isSome = ok at *
  generalize (bdown R t key 40 x 0).2 = bel at *
  have x0 : Box (w.alloc (Obj.cells #[.int .u64 0, .int .u64 0] 33)) w.heap.size 33 [.int .u64 0, .int .u64 0] := Box.new w _ _
  obtain ⟨b0, hb0e⟩ : ∃ b, b = w.heap.size := ⟨_, rfl⟩
  obtain ⟨W0, hW0⟩ : ∃ W, W = w.alloc (Obj.cells #[.int .u64 0, .int .u64 0] 33) := ⟨_, rfl⟩
  rw [← hW0] at hb0 hD x0
  rw [← hb0e] at x0
  have g0 : w.heap.size ≤ b0 := by omega
  have hDH := Lib.hid hD
  have hb0H := Lib.hid hb0
  have x0H := Lib.hid x0
  have hWH := Lib.hid (And.intro hW0 hb0e)
  clear h hD hb0 x0 hW0 hb0e hab
  go_enter Tryz.func15, Tryz.ntmps15
  go_wp2_with fail
  rw [← hWH.out.1, ← hWH.out.2]
  refine hDH.out.mono ?_
  rintro e w2 ⟨rfl, hb2⟩
  have y0 := Lib.hid (x0H.out.below hb2)
  have c0 := y0.out.at' (i := 0) rfl
  have c1 := y0.out.at' (i := 1) rfl
  have k0 := y0.out.free 0
  have k1 := y0.out.free 1
  have hq := ((y0.out.set 0 (.int .u64 (a : Nat))).set 1 (.int .u64 (b : Nat))).alloc (Obj.cells #[.int .u64 (a : Nat), .int .u64 (b : Nat)] 33)
  have hs := (((hb0H.out.trans (hb2.mono hb0H.out.size)).setCell (p := ⟨b0, 0, none⟩) g0 (.int .u64 (a : Nat))).setCell (p := ⟨b0, 1, none⟩) g0 (.int .u64 (b : Nat)))
  have hf := hs.alloc hs.size (Obj.cells #[.int .u64 (a : Nat), .int .u64 (b : Nat)] 33)
  have l0 := y0.out.lt
  have hqH := Lib.hid hq
  have hfH := Lib.hid hf
  clear hq hs hf hb2
  go_wp2
  have r0 := hqH.out.at' (i := 0) rfl
  have r1 := hqH.out.at' (i := 1) rfl
  refine bodyPost_ret (v := .tuple #[.agg #[.int .u64 (a : Nat), .int .u64 (b : Nat)], .bool ok]) (by simp [results, Tryz.f15, go_sem, r0, r1]) rfl ⟨rfl, hfH.out⟩
set_option maxHeartbeats 2000000 in
set_option maxRecDepth 100000 in
theorem btRank_at (h : Rd N w s R nn) (hsh : Short R) {t : Nat} (ht : BN.Deg t) (x : Nat) (hx : x < 18446744073709551616) (key : ByteArray) :
    Calls Tryz.prog 16 #[.pointer (some ⟨s, 0, none⟩), .int .i64 (t : Nat), .int .u64 (x : Nat), .string key] w fun e w' => e = .returned (.int .i64 (bdown R t key 40 x 0).2) ∧ Below w.heap.size w w' := by
  have hD := Lib.hid (btDown_at h hsh ht x hx key)
  obtain ⟨a, b, hab⟩ := itV_form (bdown R t key 40 x 0).1
  rw [hab] at hD
  generalize (bdown R t key 40 x 0).1.isSome = ok at *
  generalize (bdown R t key 40 x 0).2 = bel at *
  clear h hab
  go_enter Tryz.func16, Tryz.ntmps16
  go_wp2_with fail
  refine hD.out.mono ?_
  rintro e w2 ⟨rfl, hb2⟩
  have hf := Lib.hid (hb2.alloc hb2.size (Obj.cells #[.int .u64 (a : Nat), .int .u64 (b : Nat)] 33))
  clear hb2
  go_wp2
  go_ret
  exact ⟨rfl, hf.out⟩
set_option maxHeartbeats 2000000 in
set_option maxRecDepth 100000 in
theorem btSz_at (h : Rd N w s R nn) (t : Nat) (ht : BN.Deg t) (x : Nat) (hx : x < 18446744073709551616) :
    Calls Tryz.prog 28 #[.pointer (some ⟨s, 0, none⟩), .int .i64 (t : Nat), .int .u64 (x : Nat)] w fun e w' => e = .returned (.int .i64 (bszR R t x)) ∧ Below w.heap.size w w' := by
  have hD := Lib.hid (btSize_at h t ht x hx)
  generalize bszR R t x = z at *
  clear h
  go_enter Tryz.func28, Tryz.ntmps28
  go_wp2_with fail
  refine hD.out.mono ?_
  rintro e w2 ⟨rfl, hb2⟩
  have hf := Lib.hid hb2
  clear hb2
  go_wp2
  go_ret
  exact ⟨rfl, hf.out⟩
def mostN (nn t : Nat) : Nat := nn / (6 * t) + 1
set_option maxHeartbeats 2000000 in
set_option maxRecDepth 100000 in
theorem btMost_at (h : Rd N w s R nn) (t : Nat) (ht : BN.Deg t) :
    Calls Tryz.prog 48 #[.agg #[.pointer (some ⟨s, 0, none⟩), .int .i64 (t : Nat)]] w fun e w' => e = .returned (.int .i64 (mostN nn t : Nat)) ∧ Below w.heap.size w w' := by
  have hmo : Tryz.prog.follows .mixedOrders = true := by kernel_rfl
  obtain ⟨t1, t2⟩ := ht
  have hn := h.le
  have hb1 : Below w.heap.size w (w.alloc (Obj.cells #[.pointer (some ⟨s, 0, none⟩), .int .i64 (t : Nat)] 88)) := (Below.refl _ w).alloc (Nat.le_refl _) _
  have x1 : Box (w.alloc (Obj.cells #[.pointer (some ⟨s, 0, none⟩), .int .i64 (t : Nat)] 88)) w.heap.size 88 [.pointer (some ⟨s, 0, none⟩), .int .i64 (t : Nat)] := Box.new w _ _
  obtain ⟨W0, hW0⟩ : ∃ W, W = w.alloc (Obj.cells #[.pointer (some ⟨s, 0, none⟩), .int .i64 (t : Nat)] 88) := ⟨_, rfl⟩
  rw [← hW0] at hb1 x1
  have hW0H := Lib.hid hW0
  clear hW0
  have hW := Lib.hid (fun W (hb : Below w.heap.size w W) => rwords_at (h.below hb))
  have hT := Lib.hid (fun W => bnWords_yes ⟨t1, t2⟩ W)
  obtain ⟨m, hm⟩ : ∃ m, m = nn / (6 * t) := ⟨_, rfl⟩
  have hq : Hid (mostN nn t = m + 1) := Lib.hid (by rw [hm]; rfl)
  have hm2 : m ≤ 262144 := by rw [hm]; exact Nat.le_trans (Nat.div_le_self _ _) hn
  obtain ⟨d, hd⟩ : ∃ d, d = 6 * t := ⟨_, rfl⟩
  have hd1 : 12 ≤ d := by omega
  have hdv : ((nn : Int) / (d : Int)) = (m : Int) := by rw [hm, ← hd]; rfl
  have hTd : Hid (∀ W, Calls Tryz.prog 68 #[.int .i64 (t : Nat)] W fun e w' => e = .returned (.int .i64 (d : Nat)) ∧ W = w') := Lib.hid (by rw [hd]; exact hT.out)
  have hd0 : ¬ d = 0 := by omega
  have hw1 : IntKind.i64.wrap (m : Int) = (m : Int) := by rw [IntKind.wrap_i64]; omega
  have hw2 : IntKind.i64.wrap ((m : Int) + 1) = (m : Int) + 1 := by rw [IntKind.wrap_i64]; omega
  have c0 := fun X : Exw (fun _ => False) W0 => X.cell (x1.at' (i := 0) rfl) (fun h => h)
  have c1 := fun X : Exw (fun _ => False) W0 => X.cell (x1.at' (i := 1) rfl) (fun h => h)
  have hb1H := Lib.hid hb1
  rw [hq.out]
  clear h hb1 x1 hT hm hd hq
  go_enter Tryz.func48, Tryz.ntmps48
  go_wp2
  rw [← hW0H.out]
  refine wp_region_steps (fun w' => ∃ X : Exw (fun _ => False) W0, w' = X.W) [.r 0, .r 1, .r 3, .r 4, .a 2, .a 5, .r 6, .r 7, .r 8] hmo (by kernel_rfl) rfl (by kernel_rfl) (exw_start _ _) (fun _ _ d _ _ h => by cases d <;> exact h) ?_
  refine wpSteps_r _ _ rfl rfl (by rintro _ ⟨X, rfl⟩; go_simp; exact rfl) ?_
  go_simp
  refine wpSteps_r _ _ rfl rfl (by rintro _ ⟨X, rfl⟩; go_simp; exact rfl) ?_
  go_simp
  refine wpSteps_r _ _ rfl rfl (by rintro _ ⟨X, rfl⟩; go_simp; exact rfl) ?_
  go_simp
  refine wpSteps_r _ _ rfl rfl (by rintro _ ⟨X, rfl⟩; go_simp; exact rfl) ?_
  go_simp
  clear c0 c1
  have hbd := Lib.hid (hb1H.out.trans ((below_drawn W0).mono hb1H.out.size))
  refine wpSteps_a _ rfl (fun K1 hK1 => ?_)
  go_wp2_with fail
  refine (hW.out _ hbd.out).mono ?_
  rintro e w2 ⟨rfl, hb2⟩
  have hb3 := Lib.hid (hbd.out.trans (hb2.mono hbd.out.size))
  have hb4 := Lib.hid ((below_drawn W0).trans hb2)
  clear hb2
  go_wp2
  refine hK1 _ _ (exw_below hb4.out) ?_
  clear hK1 K1
  refine wpSteps_a _ rfl (fun K2 hK2 => ?_)
  go_wp2_with fail
  refine (hTd.out _).mono ?_
  rintro e w3 ⟨rfl, rfl⟩
  go_wp2
  refine hK2 _ _ (exw_below hb4.out) ?_
  clear hK2 K2
  refine wpSteps_r _ _ rfl rfl (by rintro _ ⟨X, rfl⟩; go_simp; exact rfl) ?_
  go_simp
  refine wpSteps_r _ _ rfl rfl (by rintro _ ⟨X, rfl⟩; go_simp; exact rfl) ?_
  go_simp
  refine wpSteps_r _ _ rfl rfl (by rintro _ ⟨X, rfl⟩; go_simp; exact rfl) ?_
  go_simp
  refine wpSteps_nil ?_
  go_wp2
  go_ret
  exact ⟨by rw [Int.natCast_add]; rfl, hb3.out⟩
end
end Go.Proofs.YtjcpclcmnhpgpaaGreatDoor

/-
  The seat's own texts, part xl: BtWB.
-/
import Derived.Test.YtjcpclcmnhpgpaaGreatDoorFMxi
import Derived.Test.YtjcpclcmnhpgpaaGreatDoorFMxk

set_option linter.unusedVariables false
set_option linter.unusedSimpArgs false
namespace Go.Proofs.YtjcpclcmnhpgpaaGreatDoor
open Go.RowKit Go.Shelf
def needF : List Bool → Nat → Bool → Nat
  | [], full, all => full + (if all then 1 else 0)
  | b :: p, full, all => if b then needF p (full + 1) all else needF p 0 false
theorem needF_eq : ∀ (p : List Bool) (full : Nat) (all : Bool), needF p full all = if p.all id then full + p.length + (if all then 1 else 0) else tails p
  | [], full, all => by simp [needF]
  | b :: p, full, all => by
    cases b with
    | true =>
      show needF p (full + 1) all = _
      rw [needF_eq p]
      have e : (true :: p).all id = p.all id := by simp
      rw [e]
      by_cases h : p.all id = true
      · rw [if_pos h, if_pos h, List.length_cons]; omega
      · rw [if_neg h, if_neg h]
        conv => rhs; unfold tails
        rw [if_neg h]
    | false =>
      show needF p 0 false = _
      rw [needF_eq p]
      have e : ¬ (false :: p).all id = true := by simp
      rw [if_neg e]
      by_cases h : p.all id = true
      · rw [if_pos h]
        conv => rhs; unfold tails
        rw [if_pos h]; simp
      · rw [if_neg h]
        conv => rhs; unfold tails
        rw [if_neg h]
theorem needF_start (p : List Bool) : needF p 0 true = needN p := by
  rw [needF_eq]
  unfold needN
  by_cases h : p.all id = true
  · rw [if_pos h, if_pos h, tails_all h]; simp
  · rw [if_neg h, if_neg h]; simp
section
variable {s N : Nat} {R : Nat → Option (List Nat)} {nn : Nat}
set_option maxHeartbeats 16000000 in
set_option maxRecDepth 100000 in
theorem btNeed_at {w : World} (h : Rd N w s R nn) (hsh : Short R) {t : Nat} (ht : BN.Deg t) (x : Nat) (hx : x < 18446744073709551616) (key : ByteArray) :
    Calls Tryz.prog 42 #[.agg #[.pointer (some ⟨s, 0, none⟩), .int .i64 (t : Nat)], .int .u64 (x : Nat), .string key] w fun e w' => e = .returned (.int .i64 (bneed R t key x : Nat)) ∧ Below w.heap.size w w' := by
  have hH := Lib.hid h
  have htH := Lib.hid ht
  have t1 := ht.1
  have t2 := ht.2
  obtain ⟨W0, hW0⟩ : ∃ W, W = w.alloc (Obj.cells #[.pointer (some ⟨s, 0, none⟩), .int .i64 (t : Nat)] 88) := ⟨_, rfl⟩
  have hb0 : Below w.heap.size w W0 := by rw [hW0]; exact (Below.refl _ w).alloc (Nat.le_refl _) _
  obtain ⟨b3, hb3⟩ : ∃ b, b = w.heap.size := ⟨_, rfl⟩
  have x3 : Box W0 b3 88 [.pointer (some ⟨s, 0, none⟩), .int .i64 (t : Nat)] := by rw [hW0, hb3]; exact Box.new w _ _
  have hW0H := Lib.hid (And.intro hW0 hb3)
  have hb0H := Lib.hid hb0
  have x3H := Lib.hid x3
  have hfin : Hid (∀ (m : Nat) W, bneed R t key x = m → Below w.heap.size w W → (Ending.returned (.int .i64 (m : Nat)) = Ending.returned (.int .i64 (bneed R t key x : Nat)) ∧ Below w.heap.size w W)) := Lib.hid (fun m W h1 h2 => ⟨by rw [h1], h2⟩)
  clear h ht hW0 hb3 x3 hb0
  go_enter Tryz.func42, Tryz.ntmps42
  by_cases hx0 : x = 0
  · have d0 : ((x : Int) == 0) = true := by rw [hx0]; rfl
    have hf := Lib.hid (hfin.out 1 W0 (by unfold bneed; rw [if_pos hx0]) hb0H.out)
    clear hx0
    go_wp2
    rw [← hW0H.out.1]
    go_ret
    exact hf.out
  · have d0 : ((x : Int) == 0) = false := by simp; omega
    obtain ⟨D, hD⟩ : ∃ D, D = bneed R t key x := ⟨_, rfl⟩
    have hDH := Lib.hid hD
    have hDn : Hid (D = needF (bpath R t key (40 - 0) x) 0 true) := Lib.hid (by rw [hD, needF_start]; unfold bneed; rw [if_neg hx0])
    clear hx0 hD
    go_upto_region 3 with (fail)
    rw [← hW0H.out.1, ← hW0H.out.2]
    go_wp2
    go_loopw [1, 7, 8, 15] (fun xv fv av iv wr => ∃ (i x' full : Nat) (all : Bool), i ≤ 40 ∧ full ≤ i ∧ x' < 18446744073709551616 ∧ xv = .int .u64 (x' : Nat) ∧ fv = .int .i64 (full : Nat) ∧ av = .bool all ∧ iv = .int .i64 (i : Nat) ∧ Hid (D = needF (bpath R t key (40 - i) x') full all) ∧ Hid (Below W0.heap.size W0 wr)) (fun _ _ _ iv _ => 40 - (intOf iv).toNat)
    case atStart => exact ⟨0, x, 0, true, by omega, by omega, hx, rfl, rfl, rfl, rfl, hDn, Lib.hid (Below.refl _ _)⟩
    case round =>
      obtain ⟨i, y, full, all, hi, hfl, hy, rfl, rfl, rfl, rfl, hd, hb⟩ := hrel
      have hbw := Lib.hid (hb0H.out.trans (hb.out.mono hb0H.out.size))
      by_cases hlt : i < 40
      · have hGt := Lib.hid (btGet_at (hH.out.below hbw.out) t htH.out y hy)
        have y3 := Lib.hid (x3H.out.below hb.out)
        have e30 := y3.out.at' (i := 0) rfl
        have e31 := y3.out.at' (i := 1) rfl
        obtain ⟨m, hm⟩ : ∃ m, 40 - i = m + 1 := ⟨39 - i, by omega⟩
        go_wp2_with fail
        refine hGt.out.mono ?_
        rintro e w2 ⟨v1, v2, v3, rfl, hown, hb2⟩
        obtain ⟨A1, q1, rfl⟩ := ownN_form hown.r1
        obtain ⟨A2, q2, rfl⟩ := ownN_form hown.r2
        obtain ⟨A3, q3, rfl⟩ := ownN_form hown.r3
        obtain ⟨n, hn⟩ : ∃ n, n = bnG R t y := ⟨_, rfl⟩
        rw [← hn] at hown
        rw [← hn]
        obtain ⟨W3, hW3⟩ : ∃ W, W = w2.alloc (Obj.cells #[.slice A1 n.keys.length q1, .slice A2 n.vals.length q2, .slice A3 n.kids.length q3, .int .u64 (n.size : Nat)] 66) := ⟨_, rfl⟩
        obtain ⟨b9, hb9⟩ : ∃ b, b = w2.heap.size := ⟨_, rfl⟩
        have hb23 : Below w2.heap.size w2 W3 := by rw [hW3]; exact (Below.refl _ _).alloc (Nat.le_refl _) _
        have x9 : Box W3 b9 66 [.slice A1 n.keys.length q1, .slice A2 n.vals.length q2, .slice A3 n.kids.length q3, .int .u64 (n.size : Nat)] := by rw [hW3, hb9]; exact Box.new w2 _ _
        have hbr3 : Below wr.heap.size wr W3 := hb2.trans (hb23.mono hb2.size)
        have z3 := Lib.hid (y3.out.below hbr3)
        have hbw3 := Lib.hid (hbw.out.trans (hbr3.mono hbw.out.size))
        have hb03 := Lib.hid (hb.out.trans (hbr3.mono hb.out.size))
        have hW3H := Lib.hid (And.intro hW3 hb9)
        have hnH := Lib.hid hn
        have x9H := Lib.hid x9
        have hownH := Lib.hid (hown.below hb23)
        have hmH := Lib.hid hm
        clear e30 e31 hGt hb2 hown hn hW3 hb9 hb23 hbr3 x9 hb y3 hbw hm
        by_cases he : bnE R t y = 0
        · rw [decide_eq_true he]
          have hw := bnG_words (hH.out.below hbw3.out) htH.out he
          rw [← hnH.out] at hw
          obtain ⟨hfit, wk, wv, wc, hsz⟩ := hw
          obtain ⟨g1, g2, g3'⟩ := hfit
          have l1 : n.keys.length ≤ 31 := by omega
          have l3 : n.kids.length ≤ 32 := by rcases g3' with h9 | h9
                                             · rw [h9]; simp
                                             · omega
          have hV : BNV W3 (fun _ => False) (.agg #[.slice A1 n.keys.length q1, .slice A2 n.vals.length q2, .slice A3 n.kids.length q3, .int .u64 (n.size : Nat)]) n := hownH.out.bnv (F := fun _ => False) (fun _ h => h.elim) n.size (by omega) (by omega) (by omega)
          have hPl := btPlace_at (hH.out.below hbw3.out) hsh hV t wk key
          obtain ⟨k, hk⟩ : ∃ k, k = plK R n.keys key := ⟨_, rfl⟩
          generalize plH R n.keys key = hbb at *
          have hkl : k ≤ n.keys.length := by rw [hk]; exact (bsF_le _ _ 0 _ (Nat.zero_le _)).2
          rw [← hk] at hPl
          have hst : Hid (D = needF (decide (2 * t - 1 ≤ n.keys.length) :: if n.kids = [] then [] else bpath R t key m (n.kids.getD k 0)) full all) := Lib.hid (by
            rw [hd.out, hmH.out]
            conv => lhs; unfold bpath
            rw [if_neg (fun h => h he), ← hnH.out, ← hk])
          have hPlH := Lib.hid hPl
          have hkids : Hid (n.kids = [] ∨ n.kids.length = n.keys.length + 1) := Lib.hid (g3'.imp id And.left)
          have wcH := Lib.hid wc
          have e30 := z3.out.at' (i := 0) rfl
          have e31 := z3.out.at' (i := 1) rfl
          have f0 := x9H.out.at' (i := 0) rfl
          have f1 := x9H.out.at' (i := 1) rfl
          have f2 := x9H.out.at' (i := 2) rfl
          have f3 := x9H.out.at' (i := 3) rfl
          clear hV hPl hk g2 g3' wk wv wc hsz he hd
          go_upto_region 8 with (fail)
          rw [← hW3H.out.1, ← hW3H.out.2]
          by_cases hful : 2 * t - 1 ≤ n.keys.length
          · have d8 : decide ((n.keys.length : Int) < 2 * (t : Int) - 1) = false := decide_eq_false (by omega)
            have hst2 : Hid (D = needF (if n.kids = [] then [] else bpath R t key m (n.kids.getD k 0)) (full + 1) all) := Lib.hid (by rw [hst.out, decide_eq_true hful]; rfl)
            clear hst
            by_cases hkd : n.kids = []
            · have hkz : n.kids.length = 0 := by rw [hkd]; rfl
              cases all with
              | true =>
                have hf := Lib.hid (hfin.out (full + 1 + 1) W3 (by rw [← hDH.out, hst2.out, if_pos hkd]; rfl) hbw3.out)
                clear hkd
                go_wp2
                go_ret
                exact hf.out
              | false =>
                have hf := Lib.hid (hfin.out (full + 1) W3 (by rw [← hDH.out, hst2.out, if_pos hkd]; rfl) hbw3.out)
                clear hkd
                go_wp2
                go_ret
                exact hf.out
            · have hkp : 0 < n.kids.length := List.length_pos_iff.2 hkd
              have d11 : ((n.kids.length : Int) == 0) = false := by simp; omega
              have hkj : k < n.kids.length := by rcases hkids.out with h9 | h9
                                                 · exact absurd h9 hkd
                                                 · omega
              obtain ⟨D3, d3, e3, hD3⟩ := row_cellsF (F := fun _ => False) hownH.out.r3 (fun _ h => h.elim)
              cases e3
              obtain ⟨b5, o5, hA3, hbl5, hcell⟩ := hD3.num hkj
              have hcx := wcH.out k hkj
              obtain ⟨y9, hy9⟩ : ∃ yk, n.kids[k] = yk := ⟨_, rfl⟩
              rw [hy9] at hcx
              have hrel : Hid (D = needF (bpath R t key (40 - (i + 1)) y9) (full + 1) all) := Lib.hid (by
                rw [hst2.out, if_neg hkd, show n.kids.getD k 0 = n.kids[k] by simp [hkj], hy9, show 40 - (i + 1) = m by have := hmH.out; omega])
              have hc9 := Lib.hid (fun W (hb : Below W3.heap.size W3 W) => by have := hcell W hb; rw [hy9] at this; exact this)
              subst hA3
              clear hkd hy9 hcell hD3
              go_wp2_with fail
              refine hPlH.out.mono ?_
              rintro e w4 ⟨rfl, hb4⟩
              have hc10 := hc9.out w4 hb4
              have f24 := (x9H.out.below hb4).at' (i := 2) rfl
              have hb04 := Lib.hid (hb03.out.trans (hb4.mono hb03.out.size))
              clear hb4
              go_wp2
              go_roundw
              case rel => exact ⟨i + 1, y9, (full + 1), all, by omega, by omega, hcx, rfl, by first | rfl | go_num, rfl, by go_num, hrel, hb04⟩
              case measure => simp [intOf]; omega
          · have d8 : decide ((n.keys.length : Int) < 2 * (t : Int) - 1) = true := decide_eq_true (by omega)
            have hst2 : Hid (D = needF (if n.kids = [] then [] else bpath R t key m (n.kids.getD k 0)) 0 false) := Lib.hid (by rw [hst.out, decide_eq_false hful]; rfl)
            clear hst
            by_cases hkd : n.kids = []
            · have hkz : n.kids.length = 0 := by rw [hkd]; rfl
              have hf := Lib.hid (hfin.out 0 W3 (by rw [← hDH.out, hst2.out, if_pos hkd]; rfl) hbw3.out)
              clear hkd
              go_wp2
              go_ret
              exact hf.out
            · have hkp : 0 < n.kids.length := List.length_pos_iff.2 hkd
              have d11 : ((n.kids.length : Int) == 0) = false := by simp; omega
              have hkj : k < n.kids.length := by rcases hkids.out with h9 | h9
                                                 · exact absurd h9 hkd
                                                 · omega
              obtain ⟨D3, d3, e3, hD3⟩ := row_cellsF (F := fun _ => False) hownH.out.r3 (fun _ h => h.elim)
              cases e3
              obtain ⟨b5, o5, hA3, hbl5, hcell⟩ := hD3.num hkj
              have hcx := wcH.out k hkj
              obtain ⟨y9, hy9⟩ : ∃ yk, n.kids[k] = yk := ⟨_, rfl⟩
              rw [hy9] at hcx
              have hrel : Hid (D = needF (bpath R t key (40 - (i + 1)) y9) 0 false) := Lib.hid (by
                rw [hst2.out, if_neg hkd, show n.kids.getD k 0 = n.kids[k] by simp [hkj], hy9, show 40 - (i + 1) = m by have := hmH.out; omega])
              have hc9 := Lib.hid (fun W (hb : Below W3.heap.size W3 W) => by have := hcell W hb; rw [hy9] at this; exact this)
              subst hA3
              clear hkd hy9 hcell hD3
              go_wp2_with fail
              refine hPlH.out.mono ?_
              rintro e w4 ⟨rfl, hb4⟩
              have hc10 := hc9.out w4 hb4
              have f24 := (x9H.out.below hb4).at' (i := 2) rfl
              have hb04 := Lib.hid (hb03.out.trans (hb4.mono hb03.out.size))
              clear hb4
              go_wp2
              go_roundw
              case rel => exact ⟨i + 1, y9, 0, false, by omega, by omega, hcx, rfl, by first | rfl | go_num, rfl, by go_num, hrel, hb04⟩
              case measure => simp [intOf]; omega
        · rw [decide_eq_false he]
          have hDe : D = needF [] full all := by
            rw [hd.out, hmH.out]
            unfold bpath
            rw [if_pos he]
          clear he hd
          cases all with
          | true =>
            have hf := Lib.hid (hfin.out (full + 1) W3 (by rw [← hDH.out, hDe]; rfl) hbw3.out)
            clear hDe
            go_wp2
            rw [← hW3H.out.1]
            go_ret
            exact hf.out
          | false =>
            have hf := Lib.hid (hfin.out full W3 (by rw [← hDH.out, hDe]; rfl) hbw3.out)
            clear hDe
            go_wp2
            rw [← hW3H.out.1]
            go_ret
            exact hf.out
      · obtain rfl : i = 40 := by omega
        have hDe : D = needF [] full all := by rw [hd.out]; rfl
        clear hd
        cases all with
        | true =>
          have hf := Lib.hid (hfin.out (full + 1) wr (by rw [← hDH.out, hDe]; rfl) hbw.out)
          clear hDe
          go_wp2
          go_ret
          exact hf.out
        | false =>
          have hf := Lib.hid (hfin.out full wr (by rw [← hDH.out, hDe]; rfl) hbw.out)
          clear hDe
          go_wp2
          go_ret
          exact hf.out
end
end Go.Proofs.YtjcpclcmnhpgpaaGreatDoor

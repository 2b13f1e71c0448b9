/-
  The seat's own texts, what RedWays wants besides: OpenB, Ways13.
-/
import Derived.Test.YtjpmlneihbckpaaGreatDoorNd
import Derived.SizedLaws
/- A row of pairs that is read: its size. -/
set_option linter.unusedVariables false
set_option linter.unusedSimpArgs false
namespace Go.Proofs.YtjpmlneihbckpaaGreatDoor
open Go.ChangeShapes Go.WideShapes Go.ChangeAt Go.WideMaps Go.WideElems Go.RowKit Go.Deep
section
variable {H : Type} {enc : TypeId × Value → H} {w : World} {base : Nat} {held : Bool}
theorem open_prs_data {fuel : Nat} {cs : List Value} {x : DataW H × List MemPlace} (h : DataW.trod enc Tryz.prog w base (fun _ => true) held fuel 22 cs = some x) : ∃ A len cap, cs = [.slice A len cap] ∧ (len = 0 ∨ ∃ elems sp, x.1 = .slice elems sp ∧ elems.length = len) := by
  rcases open_slice_pairs Tryz.underlying22 Tryz.underlying46 (by kernel_rfl) rfl rfl (by kernel_rfl) (by kernel_rfl) h with ⟨hcs, _⟩ | ⟨a, len, cap, m, n, V0, V1, D0, D1, P0, P1, hcs, hb, hl, hm, hmm, hx, _⟩
  · exact ⟨none, 0, 0, hcs, .inl rfl⟩
  · exact ⟨some a, len, cap, hcs, .inr ⟨_, _, by rw [hx], by simp⟩⟩
theorem prs_bound {ts : List TypeId} {ds : List (DataW H)} (hw : (DataW.weightsEach Tryz.prog ts ds).all (· ≤ reachBytes) = true) {j fuel len cap : Nat} {A : Option Addr} {d : DataW H} {p : List MemPlace} (ht : ts[j]? = some 22) (hd : ds[j]? = some d)
    (h : DataW.trod enc Tryz.prog w base (fun _ => true) held fuel 22 [.slice A len cap] = some (d, p)) : len ≤ 4398046510976 := by
  obtain ⟨A', len', cap', hcs, hh⟩ := open_prs_data h
  simp only [List.cons.injEq, Value.slice.injEq, and_true] at hcs
  obtain ⟨rfl, rfl, rfl⟩ := hcs
  rcases hh with rfl | ⟨elems, sp, hx, hl⟩
  · omega
  · simp only at hx
    rw [hx] at hd
    have h1 := sized_slice hw ht hd Tryz.underlying22
    rw [show Tryz.prog.bytesOf 46 = 32 by kernel_rfl, show reachBytes = 140737488351232 from rfl] at h1
    omega
end
end Go.Proofs.YtjpmlneihbckpaaGreatDoor
/- loftlaw13.RedWays: the walk. -/
set_option linter.unusedVariables false
set_option linter.unusedSimpArgs false
namespace Go.Proofs.YtjpmlneihbckpaaGreatDoor
open Go.RowKit Go.Shelf
set_option maxHeartbeats 4000000 in
set_option maxRecDepth 100000 in
theorem ways_at {s N n : Nat} {R : Nat → Option (List Nat)} (h0 : R 0 = none) : ∀ (t : BT) (rd : Bool) (w : World), t.At R → Rd N w s R n → t.RB → (rd = true → t.red = false) → t.bh ≤ 1000000 →
    Calls Tryz.prog 25 #[.pointer (some ⟨s, 0, none⟩), .int .u64 (t.root : Nat), .int .i64 (t.bh : Nat), .bool rd] w fun e w' => e = .returned (.bool true) ∧ Below w.heap.size w w'
  | .nil, rd, w, ht, h, hr, hd, hb => by
    have hG := nget_lit h 0 (by omega) Nd.zero (BT.nodeG_zero h0) 7 (by unfold nodeE; rw [h0])
    have hGH := Lib.hid hG
    clear hG h
    show Calls Tryz.prog 25 #[.pointer (some ⟨s, 0, none⟩), .int .u64 0, .int .i64 0, .bool rd] w _
    go_enter Tryz.func25, Tryz.ntmps25
    go_wp2_with fail
    refine hGH.out.mono ?_
    unfold Nd.zero
    rintro e w1 ⟨rfl, hb⟩
    have hbH := Lib.hid hb
    have hz1 := hb.size
    clear hb hGH
    go_wp2
    go_ret
    exact ⟨rfl, hbH.out.alloc hz1 _⟩
  | .node x kx vx m k v l r, rd, w, ht, h, hrb, hd, hbd => by
    have hl := ht.2.2.2.2.2.2.1
    have hr := ht.2.2.2.2.2.2.2
    obtain ⟨e1, e2⟩ := nodeR_at ht.2.1
    obtain ⟨nd, hnd⟩ : ∃ nd, (⟨kx, vx, l.root, r.root, m, l.size + 1 + r.size⟩ : Nd) = nd := ⟨_, rfl⟩
    have hnl : nd.left = l.root := by rw [← hnd]
    have hnr : nd.right = r.root := by rw [← hnd]
    rw [hnd] at e2
    have hx := (h.u64 ht.2.1).1
    have hG := Lib.hid (nget_lit h x hx nd e2 0 e1)
    obtain ⟨hm, hab, al, ar⟩ := hrb
    have hbh : (BT.node x kx vx m k v l r).bh = m / 2 := rfl
    have hred : (BT.node x kx vx m k v l r).red = (m % 2 == 1) := rfl
    have hBk := fun W (hb : Below w.heap.size w W) => trbBlack_at (h.below hb) h0 (t := .node x kx vx m k v l r) ht
    have i1 := fun W (hb : Below w.heap.size w W) rd' => ways_at h0 l rd' W hl (h.below hb) al
    have i2 := fun W (hb : Below w.heap.size w W) rd' => ways_at h0 r rd' W hr (h.below hb) ar
    rw [hbh] at hbd hBk
    rw [hred] at hd hBk
    show Calls Tryz.prog 25 #[.pointer (some ⟨s, 0, none⟩), .int .u64 (x : Nat), .int .i64 ((m / 2 : Nat) : Int), .bool rd] w _
    rcases hm with e | ⟨e, rl, rr⟩
    · have em : m / 2 = l.bh + 1 := by omega
      have er : (m % 2 == 1) = false := by rw [e]; rw [show (2 * l.bh + 2) % 2 = 0 by omega]; rfl
      rw [em] at hbd hBk ⊢
      rw [er] at hBk hd
      have hI1 := Lib.hid (fun W (hb : Below w.heap.size w W) => i1 W hb false (fun e => by cases e) (by omega))
      have hI2 := Lib.hid (fun W (hb : Below w.heap.size w W) => by have := i2 W hb false (fun e => by cases e) (by omega); rw [← hab] at this; exact this)
      have hBkH := Lib.hid (hBk : ∀ W, Below w.heap.size w W → Calls Tryz.prog 20 #[.pointer (some ⟨s, 0, none⟩), .int .u64 (x : Nat)] W _)
      clear hd
      generalize l.bh = lb at *
      clear h hnd e1 e2 ht hl hr hBk i1 i2 al ar hab hbh hred em er e
      go_enter Tryz.func25, Tryz.ntmps25
      go_wp2_with fail
      refine hG.out.mono ?_
      rintro e w1 ⟨rfl, hb1⟩
      have hb1H := Lib.hid hb1
      have hz1 := hb1.size
      clear hb1 hG
      go_wp2_with fail
      obtain ⟨W3, hW⟩ : ∃ W, W = w1.alloc (Obj.cells #[.int .u64 (nd.key : Nat), .int .u64 (nd.val : Nat), .int .u64 (l.root : Nat), .int .u64 (r.root : Nat), .int .u64 (nd.mark : Nat), .int .u64 (nd.size : Nat)] 53) := ⟨_, rfl⟩
      obtain ⟨b3, hb⟩ : ∃ b, b = w1.heap.size := ⟨_, rfl⟩
      have hX3 : Hid (Box W3 b3 53 [.int .u64 (nd.key : Nat), .int .u64 (nd.val : Nat), .int .u64 (l.root : Nat), .int .u64 (r.root : Nat), .int .u64 (nd.mark : Nat), .int .u64 (nd.size : Nat)]) := Lib.hid (by rw [hW, hb]; exact Box.new w1 53 [.int .u64 (nd.key : Nat), .int .u64 (nd.val : Nat), .int .u64 (l.root : Nat), .int .u64 (r.root : Nat), .int .u64 (nd.mark : Nat), .int .u64 (nd.size : Nat)])
      have hBW3 : Hid (Below w.heap.size w W3) := Lib.hid (by rw [hW]; exact hb1H.out.alloc hz1 _)
      rw [← hW, ← hb]
      clear hW hb hz1 hb1H hnl hnr
      refine (hBkH.out _ hBW3.out).mono ?_
      rintro e W4 ⟨rfl, hb⟩
      have hB4 := Lib.hid (hBW3.out.trans (hb.mono hBW3.out.size))
      have hX4 := Lib.hid (hX3.out.below hb)
      have c2 := hX4.out.at' (i := 2) rfl
      have c3 := hX4.out.at' (i := 3) rfl
      clear hb hX3 hBW3 hBkH
      go_wp2_with fail
      refine (hI1.out _ hB4.out).mono ?_
      rintro e W5 ⟨rfl, hb⟩
      have hB5 := Lib.hid (hB4.out.trans (hb.mono hB4.out.size))
      have hX5 := Lib.hid (hX4.out.below hb)
      clear hb hX4 hI1 c2 c3 hB4
      have c2 := hX5.out.at' (i := 2) rfl
      have c3 := hX5.out.at' (i := 3) rfl
      go_wp2_with fail
      refine (hI2.out _ hB5.out).mono ?_
      rintro e W6 ⟨rfl, hb⟩
      have hB6 := Lib.hid (hB5.out.trans (hb.mono hB5.out.size))
      clear hb hX5 hI2 c2 c3 hB5
      go_wp2
      go_ret
      exact ⟨rfl, hB6.out⟩
    · have em : m / 2 = l.bh := by omega
      have er : (m % 2 == 1) = true := by rw [e]; rw [show (2 * l.bh + 1) % 2 = 1 by omega]; rfl
      rw [em] at hbd hBk ⊢
      rw [er] at hBk hd
      have hI1 := Lib.hid (fun W (hb : Below w.heap.size w W) => i1 W hb true (fun _ => rl) (by omega))
      have hI2 := Lib.hid (fun W (hb : Below w.heap.size w W) => by have := i2 W hb true (fun _ => rr) (by omega); rw [← hab] at this; exact this)
      have hBkH := Lib.hid (hBk : ∀ W, Below w.heap.size w W → Calls Tryz.prog 20 #[.pointer (some ⟨s, 0, none⟩), .int .u64 (x : Nat)] W _)
      have hrd : rd = false := by cases rd with
        | false => rfl
        | true => exact absurd (hd rfl) (by decide)
      subst hrd
      clear hd
      generalize l.bh = lb at *
      clear h hnd e1 e2 ht hl hr hBk i1 i2 al ar hab hbh hred em er e
      go_enter Tryz.func25, Tryz.ntmps25
      go_wp2_with fail
      refine hG.out.mono ?_
      rintro e w1 ⟨rfl, hb1⟩
      have hb1H := Lib.hid hb1
      have hz1 := hb1.size
      clear hb1 hG
      go_wp2_with fail
      obtain ⟨W3, hW⟩ : ∃ W, W = w1.alloc (Obj.cells #[.int .u64 (nd.key : Nat), .int .u64 (nd.val : Nat), .int .u64 (l.root : Nat), .int .u64 (r.root : Nat), .int .u64 (nd.mark : Nat), .int .u64 (nd.size : Nat)] 53) := ⟨_, rfl⟩
      obtain ⟨b3, hb⟩ : ∃ b, b = w1.heap.size := ⟨_, rfl⟩
      have hX3 : Hid (Box W3 b3 53 [.int .u64 (nd.key : Nat), .int .u64 (nd.val : Nat), .int .u64 (l.root : Nat), .int .u64 (r.root : Nat), .int .u64 (nd.mark : Nat), .int .u64 (nd.size : Nat)]) := Lib.hid (by rw [hW, hb]; exact Box.new w1 53 [.int .u64 (nd.key : Nat), .int .u64 (nd.val : Nat), .int .u64 (l.root : Nat), .int .u64 (r.root : Nat), .int .u64 (nd.mark : Nat), .int .u64 (nd.size : Nat)])
      have hBW3 : Hid (Below w.heap.size w W3) := Lib.hid (by rw [hW]; exact hb1H.out.alloc hz1 _)
      rw [← hW, ← hb]
      clear hW hb hz1 hb1H hnl hnr
      refine (hBkH.out _ hBW3.out).mono ?_
      rintro e W4 ⟨rfl, hb⟩
      have hB4 := Lib.hid (hBW3.out.trans (hb.mono hBW3.out.size))
      have hX4 := Lib.hid (hX3.out.below hb)
      have c2 := hX4.out.at' (i := 2) rfl
      have c3 := hX4.out.at' (i := 3) rfl
      clear hb hX3 hBW3 hBkH
      go_wp2_with fail
      refine (hI1.out _ hB4.out).mono ?_
      rintro e W5 ⟨rfl, hb⟩
      have hB5 := Lib.hid (hB4.out.trans (hb.mono hB4.out.size))
      have hX5 := Lib.hid (hX4.out.below hb)
      clear hb hX4 hI1 c2 c3 hB4
      have c2 := hX5.out.at' (i := 2) rfl
      have c3 := hX5.out.at' (i := 3) rfl
      go_wp2_with fail
      refine (hI2.out _ hB5.out).mono ?_
      rintro e W6 ⟨rfl, hb⟩
      have hB6 := Lib.hid (hB5.out.trans (hb.mono hB5.out.size))
      clear hb hX5 hI2 c2 c3 hB5
      go_wp2
      go_ret
      exact ⟨rfl, hB6.out⟩
set_option maxHeartbeats 2000000 in
set_option maxRecDepth 100000 in
theorem ways13_0 {w : World} (hT : Tab w) (l : List Pr) (A : Option Addr) (c : Nat) (bk : Bool) (h : ILaw w A l) (hb42 : l.length ≤ 4398046510976) (hg : 60 < l.length ∨ (l.length ≤ 60 ∧ longL l = true)) :
    Calls Tryz.prog 5 #[.slice A l.length c, .bool bk] w (TrueB w) := by
  have hso := Lib.hid (refSorted_at (c := c) h.1.prs (Nat.le_refl _) (by omega) h.2.1)
  have hTH := Lib.hid hT
  have hL := fun W (hb : Below w.heap.size w W) => refLong_at (c := c) (h.1.prs.below hb) h.2.2 h.2.1
  have hLH := Lib.hid hL
  clear hT h hL
  unfold TrueB
  go_enter Tryz.func5, Tryz.ntmps5
  go_wp2_with fail
  refine hso.out.mono ?_
  rintro e w2 ⟨v, rfl, hrow, hb2⟩
  obtain ⟨A2, c2, rfl, -, -, -⟩ := own_pairs hrow rfl
  have hbw2 := Lib.hid hb2
  have hN := Lib.hid (snew_at (hTH.out.below hb2 (tab_lt hTH.out)) 262144 1000 4294967295 (by omega) (by omega) (by omega) (by omega) (by omega))
  clear hrow hb2 hso
  go_wp2_with fail
  refine hN.out.mono ?_
  rintro e w3 ⟨s, F, rfl, hS, hs3, hF3, hb3⟩
  have hb3H := Lib.hid (hbw2.out.trans (hb3.mono hbw2.out.size))
  clear hS hF3 hb3 hN
  rcases hg with hl | ⟨hl, hlong⟩
  · have d1 : decide ((60 : Int) < (l.length : Int)) = true := by simp; omega
    have hAw := Lib.hid (awake13_at (hTH.out.below hb3H.out (tab_lt hTH.out)))
    go_wp2_with fail
    refine hAw.out.mono ?_
    rintro e w4 ⟨rfl, hb4⟩
    have hbH := Lib.hid (hb3H.out.trans (hb4.mono hb3H.out.size))
    clear hb4
    go_wp2
    go_ret
    exact ⟨rfl, hbH.out⟩
  · have d1 : decide ((60 : Int) < (l.length : Int)) = false := by simp; omega
    have hL3 := hLH.out w3 hb3H.out
    rw [hlong] at hL3
    have hL3H := Lib.hid hL3
    have hAw := Lib.hid (awake13_at (hTH.out.below hb3H.out (tab_lt hTH.out)))
    clear hL3 hlong
    go_wp2_with fail
    refine hL3H.out.mono ?_
    rintro e w4 ⟨rfl, rfl⟩
    go_wp2_with fail
    refine hAw.out.mono ?_
    rintro e w4 ⟨rfl, hb4⟩
    have hbH := Lib.hid (hb3H.out.trans (hb4.mono hb3H.out.size))
    clear hb4
    go_wp2
    go_ret
    exact ⟨rfl, hbH.out⟩
set_option maxHeartbeats 4000000 in
set_option maxRecDepth 100000 in
theorem ways13_main {w : World} (hT : Tab w) (l : List Pr) (A : Option Addr) (c : Nat) (bk : Bool) (h : ILaw w A l) (g1 : l.length ≤ 60) (g3 : longL l = false) :
    Calls Tryz.prog 5 #[.slice A l.length c, .bool bk] w (TrueB w) := by
  have hso := Lib.hid (refSorted_at (c := c) h.1.prs (Nat.le_refl _) (by omega) h.2.1)
  have hTH := Lib.hid hT
  have hL := fun W (hb : Below w.heap.size w W) => refLong_at (c := c) (h.1.prs.below hb) h.2.2 h.2.1
  rw [g3] at hL
  have hLH := Lib.hid hL
  have d1 : decide ((60 : Int) < (l.length : Int)) = false := by simp; omega
  have hsl := sortedL_len l
  have hrs := Lib.hid (sortedL_rising l)
  have hszl := sized_of g3
  have hszm : Hid (∀ p ∈ sortedL l, p.1.size ≤ 1000 ∧ p.2.size ≤ 1000) := Lib.hid (fun p hp => hszl p (sortedL_mem hp))
  clear hT h hL g3 hszl
  unfold TrueB
  go_enter Tryz.func5, Tryz.ntmps5
  go_wp2_with fail
  refine hso.out.mono ?_
  rintro e w2 ⟨v, rfl, hrow, hb2⟩
  obtain ⟨A2, c2, rfl, hA2, hc2, hP2⟩ := own_pairs hrow rfl
  have hbw2 := Lib.hid hb2
  have hP2H := Lib.hid hP2
  have hN := Lib.hid (snew_at (hTH.out.below hb2 (tab_lt hTH.out)) 262144 1000 4294967295 (by omega) (by omega) (by omega) (by omega) (by omega))
  clear hrow hb2 hP2 hso hA2
  generalize sortedL l = m at *
  go_wp2_with fail
  refine hN.out.mono ?_
  rintro e w3 ⟨s, F, rfl, hS, hs3, hF3, hb3⟩
  have hb3H := Lib.hid (hbw2.out.trans (hb3.mono hbw2.out.size))
  have hcf3 : CellsF w3 F A2 (prsV m) := CellsF.of_prs (hP2H.out.below hb3) (by exact hb3.size) hF3
  have hF3H : Hid (∀ b, F b → w.heap.size ≤ b) := Lib.hid (fun b hb => Nat.le_trans hbw2.out.size (hF3 b hb))
  have hB := Lib.hid (built13_at (c := c2) hS (by rfl) hcf3 (by omega) hszm.out (by omega) (by simp; omega) (by omega) bk)
  clear hS hF3 hb3 hN hcf3
  go_wp2_with fail
  refine (hLH.out _ hb3H.out).mono ?_
  rintro e w4 ⟨rfl, rfl⟩
  go_wp2_with fail
  refine hB.out.mono ?_
  rintro e w5 ⟨t, F5, R5, H5, rfl, hpr, hav, hgo, hS5, hH5, hT5⟩
  have h05 : R5 0 = none := hgo.zero rfl
  obtain ⟨n5, hrd, -⟩ := hS5.rd
  have szt : t.size = m.length := by rw [← BT.prs_len, hpr]
  have hle := BT.hgt_le t
  have hbh := BT.bh_hgt hav
  have hBk := Lib.hid (trbBlack_at hrd h05 hgo.at')
  have hWy := Lib.hid (fun W (hb : Below w5.heap.size w5 W) => ways_at h05 t false W hgo.at' (hrd.below hb) hav (fun e => by cases e) (by omega))
  have hbw5 := Lib.hid (hb3H.out.trans (hT5.to_below hb3H.out.size hF3H.out))
  have hT5H := Lib.hid (hTH.out.below hbw5.out (tab_lt hTH.out))
  have hbl : t.bh ≤ 60 := by omega
  clear hpr hav hgo hS5 hH5 hT5 hB hrd h05 szt hle hbh
  generalize t.bh = hb9 at *
  generalize t.red = r9 at *
  generalize t.root = rt at *
  go_wp2_with fail
  refine hBk.out.mono ?_
  rintro e w6 ⟨rfl, hb6⟩
  have hb6H := Lib.hid hb6
  clear hb6 hBk
  go_wp2_with fail
  refine (hWy.out _ hb6H.out).mono ?_
  rintro e w7 ⟨rfl, hb7⟩
  have hb7H := Lib.hid (hbw5.out.trans ((hb6H.out.trans (hb7.mono hb6H.out.size)).mono hbw5.out.size))
  have hAw := Lib.hid (awake13_at (hTH.out.below hb7H.out (tab_lt hTH.out)))
  clear hb7 hWy
  go_wp2_with fail
  refine hAw.out.mono ?_
  rintro e w8 ⟨rfl, hb8⟩
  have hb8H := Lib.hid (hb7H.out.trans (hb8.mono hb7H.out.size))
  clear hb8 hAw
  go_wp2
  go_ret
  exact ⟨rfl, hb8H.out⟩
end Go.Proofs.YtjpmlneihbckpaaGreatDoor

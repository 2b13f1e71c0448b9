/-
  The seat's own texts, part xd: BtW1, BtW2, BtW3, BtW4, BtW5.
-/
import Derived.Test.YtjcpclcmnhpgpaaGreatDoorFMxc

set_option linter.unusedVariables false
set_option linter.unusedSimpArgs false
namespace Go.Proofs.YtjcpclcmnhpgpaaGreatDoor
open Go.RowKit Go.Shelf
def BTGet (w : World) (R : Nat → Option (List Nat)) (t x : Nat) (e : Ending) (w' : World) : Prop :=
  ∃ v1 v2 v3, e = .returned (.tuple #[.agg #[v1, v2, v3, .int .u64 ((bnG R t x).size : Nat)], .bool (decide (bnE R t x = 0))]) ∧ Own3 w' w.heap.size v1 (bnG R t x).keys v2 (bnG R t x).vals v3 (bnG R t x).kids ∧ Below w.heap.size w w'
def setFour (W : World) (b6 : Nat) (v1 v2 v3 v4 : Value) : World := (((W.setCell ⟨b6, 0, none⟩ v1).setCell ⟨b6, 1, none⟩ v2).setCell ⟨b6, 2, none⟩ v3).setCell ⟨b6, 3, none⟩ v4
theorem setFour_box {W : World} {b6 : Nat} {T6 : TypeId} {u1 u2 u3 u4 : Value} (h6 : Box W b6 T6 [u1, u2, u3, u4]) (v1 v2 v3 v4 : Value) : Box (setFour W b6 v1 v2 v3 v4) b6 T6 [v1, v2, v3, v4] :=
  ((((h6.set 0 v1).set 1 v2).set 2 v3).set 3 v4)
theorem setFour_below {w W : World} {m b6 : Nat} (h : Below m w W) (h6 : m ≤ b6) (v1 v2 v3 v4 : Value) : Below m w (setFour W b6 v1 v2 v3 v4) :=
  (((h.setCell (p := ⟨b6, 0, none⟩) h6 v1).setCell (p := ⟨b6, 1, none⟩) h6 v2).setCell (p := ⟨b6, 2, none⟩) h6 v3).setCell (p := ⟨b6, 3, none⟩) h6 v4
theorem Own3.four {W : World} {B b6 : Nat} {v1 v2 v3 : Value} {l1 l2 l3 : List Nat} (h : Own3 W B v1 l1 v2 l2 v3 l3) (h6 : b6 < B) (u1 u2 u3 u4 : Value) : Own3 (setFour W b6 u1 u2 u3 u4) B v1 l1 v2 l2 v3 l3 := (((h.set h6 u1).set h6 u2).set h6 u3).set h6 u4
section
variable {w w' : World} {s N : Nat} {R : Nat → Option (List Nat)} {nn : Nat}
set_option maxHeartbeats 4000000 in
set_option maxRecDepth 100000 in
theorem btGet_at (h : Rd N w s R nn) (t : Nat) (ht : BN.Deg t) (x : Nat) (hx : x < 18446744073709551616) :
    Calls Tryz.prog 39 #[.agg #[.pointer (some ⟨s, 0, none⟩), .int .i64 (t : Nat)], .int .u64 (x : Nat)] w (BTGet w R t x) := by
  obtain ⟨W2, hW2⟩ : ∃ W, W = (w.alloc (Obj.cells #[.pointer (some ⟨s, 0, none⟩), .int .i64 (t : Nat)] 88)).alloc (Obj.cells #[.slice none 0 0, .slice none 0 0, .slice none 0 0, .int .u64 0] 66) := ⟨_, rfl⟩
  have hb2 : Below w.heap.size w W2 := by rw [hW2]; exact ((Below.refl _ w).alloc (Nat.le_refl _) _).alloc (by simp) _
  obtain ⟨b4, hb4⟩ : ∃ b, b = w.heap.size + 1 := ⟨_, rfl⟩
  have x4 : Box W2 b4 66 [.slice none 0 0, .slice none 0 0, .slice none 0 0, .int .u64 0] := by
    rw [hW2, hb4]
    have := Box.new (w.alloc (Obj.cells #[.pointer (some ⟨s, 0, none⟩), .int .i64 (t : Nat)] 88)) 66 [.slice none 0 0, .slice none 0 0, .slice none 0 0, .int .u64 0]
    rwa [show (w.alloc (Obj.cells #[.pointer (some ⟨s, 0, none⟩), .int .i64 (t : Nat)] 88)).heap.size = w.heap.size + 1 by simp] at this
  have g4 : w.heap.size ≤ b4 := by omega
  have hG := Lib.hid (bnGet_at (h.below hb2) t ht x hx)
  have hW2H := Lib.hid hW2
  have hb2H := Lib.hid hb2
  have hb4H := Lib.hid hb4
  have x4H := Lib.hid x4
  clear h hW2 hb2 x4 hb4
  go_enter Tryz.func39, Tryz.ntmps39
  go_wp2_with fail
  rw [← hW2H.out, ← hb4H.out]
  refine hG.out.mono ?_
  rintro e w3 ⟨v1, v2, v3, rfl, hown, hb3⟩
  obtain ⟨A1, k1, rfl⟩ := ownN_form hown.r1
  obtain ⟨A2, k2, rfl⟩ := ownN_form hown.r2
  obtain ⟨A3, k3, rfl⟩ := ownN_form hown.r3
  have hownH := Lib.hid hown
  have hb3H := Lib.hid (hb2H.out.trans (hb3.mono hb2H.out.size))
  have x43 := Lib.hid (x4H.out.below hb3)
  have hl4 := Lib.hid x4H.out.lt
  have l4 := x43.out.lt
  clear hown hb3
  have c0 := x43.out.at' (i := 0) rfl
  have c1 := x43.out.at' (i := 1) rfl
  have c2 := x43.out.at' (i := 2) rfl
  have c3 := x43.out.at' (i := 3) rfl
  have f0 := x43.out.free 0
  have f1 := x43.out.free 1
  have f2 := x43.out.free 2
  have f3 := x43.out.free 3
  have hE : Hid (∀ v1 v2 v3 W, Own3 W w.heap.size v1 (bnG R t x).keys v2 (bnG R t x).vals v3 (bnG R t x).kids → Below w.heap.size w W → BTGet w R t x (.returned (.tuple #[.agg #[v1, v2, v3, .int .u64 ((bnG R t x).size : Nat)], .bool (decide (bnE R t x = 0))])) W) := Lib.hid (fun v1 v2 v3 W h1 h2 => ⟨v1, v2, v3, rfl, h1, h2⟩)
  have de : ((bnE R t x : Int) == 0) = decide (bnE R t x = 0) := by rw [Bool.eq_iff_iff]; simp
  generalize (bnG R t x).keys.length = n1 at *
  generalize (bnG R t x).vals.length = n2 at *
  generalize (bnG R t x).kids.length = n3 at *
  generalize (bnG R t x).size = n4 at *
  generalize decide (bnE R t x = 0) = ok at *
  generalize bnE R t x = er at *
  have hq := (setFour_box x43.out (.slice A1 n1 k1) (.slice A2 n2 k2) (.slice A3 n3 k3) (.int .u64 (n4 : Nat))).alloc (Obj.cells #[.slice A1 n1 k1, .slice A2 n2 k2, .slice A3 n3 k3, .int .u64 (n4 : Nat)] 66)
  have hs4 := setFour_below hb3H.out g4 (.slice A1 n1 k1) (.slice A2 n2 k2) (.slice A3 n3 k3) (.int .u64 (n4 : Nat))
  have ho4 := (hownH.out.four hl4.out (.slice A1 n1 k1) (.slice A2 n2 k2) (.slice A3 n3 k3) (.int .u64 (n4 : Nat))).lower hb2H.out.size
  have hfin := hE.out _ _ _ _ (ho4.below ((Below.refl _ _).alloc (Nat.le_refl _) (Obj.cells #[.slice A1 n1 k1, .slice A2 n2 k2, .slice A3 n3 k3, .int .u64 (n4 : Nat)] 66))) (hs4.alloc hs4.size _)
  unfold setFour at hq hfin
  have hqH := Lib.hid hq
  have hfinH := Lib.hid hfin
  clear hq hs4 ho4 hfin
  go_wp2
  have r0 := hqH.out.at' (i := 0) rfl
  have r1 := hqH.out.at' (i := 1) rfl
  have r2 := hqH.out.at' (i := 2) rfl
  have r3 := hqH.out.at' (i := 3) rfl
  refine bodyPost_ret (v := .tuple #[.agg #[.slice A1 n1 k1, .slice A2 n2 k2, .slice A3 n3 k3, .int .u64 (n4 : Nat)], .bool ok]) (by simp [results, Tryz.f39, go_sem, r0, r1, r2, r3]) rfl hfinH.out
end
end Go.Proofs.YtjcpclcmnhpgpaaGreatDoor

set_option linter.unusedVariables false
set_option linter.unusedSimpArgs false
namespace Go.Proofs.YtjcpclcmnhpgpaaGreatDoor
open Go.RowKit Go.Shelf
section
variable {w w' : World} {s N : Nat} {R : Nat → Option (List Nat)} {nn : Nat}
set_option maxHeartbeats 2000000 in
set_option maxRecDepth 100000 in
theorem btKey_at (h : Rd N w s R nn) (hsh : Short R) (t x : Nat) (hx : x < 18446744073709551616) :
    Calls Tryz.prog 55 #[.agg #[.pointer (some ⟨s, 0, none⟩), .int .i64 (t : Nat)], .int .u64 (x : Nat)] w fun e w' => e = .returned (.string (keyB R x)) ∧ Below w.heap.size w w' := by
  have hb1 : Below w.heap.size w (w.alloc (Obj.cells #[.pointer (some ⟨s, 0, none⟩), .int .i64 (t : Nat)] 88)) := (Below.refl _ w).alloc (Nat.le_refl _) _
  have hB := bget_at (h.below hb1) hsh x hx
  unfold blobV at hB
  rw [show (blobR R x).getD ⟨#[]⟩ = keyB R x from rfl] at hB
  have hBH := Lib.hid hB
  have hb1H := Lib.hid hb1
  clear h hB hb1
  generalize keyB R x = kk at *
  generalize blobE R x = er at *
  go_enter Tryz.func55, Tryz.ntmps55
  go_wp2_with fail
  refine hBH.out.mono ?_
  rintro e w2 ⟨rfl, hb2⟩
  have hb3 := Lib.hid (hb1H.out.trans (hb2.mono hb1H.out.size))
  clear hb2
  go_wp2
  go_ret
  exact ⟨rfl, hb3.out⟩
set_option maxHeartbeats 2000000 in
set_option maxRecDepth 100000 in
theorem btSize_at (h : Rd N w s R nn) (t : Nat) (ht : BN.Deg t) (x : Nat) (hx : x < 18446744073709551616) :
    Calls Tryz.prog 44 #[.agg #[.pointer (some ⟨s, 0, none⟩), .int .i64 (t : Nat)], .int .u64 (x : Nat)] w fun e w' => e = .returned (.int .i64 (bszR R t x)) ∧ Below w.heap.size w w' := by
  have hb1 : Below w.heap.size w (w.alloc (Obj.cells #[.pointer (some ⟨s, 0, none⟩), .int .i64 (t : Nat)] 88)) := (Below.refl _ w).alloc (Nat.le_refl _) _
  have hB := btGet_at (h.below hb1) t ht x hx
  unfold BTGet at hB
  unfold bszR
  generalize (bnG R t x).size = n4 at *
  have hBH := Lib.hid hB
  have hb1H := Lib.hid hb1
  clear h hB hb1
  go_enter Tryz.func44, Tryz.ntmps44
  go_wp2_with fail
  refine hBH.out.mono ?_
  rintro e w2 ⟨v1, v2, v3, rfl, hown, hb2⟩
  obtain ⟨A1, k1, rfl⟩ := ownN_form hown.r1
  obtain ⟨A2, k2, rfl⟩ := ownN_form hown.r2
  obtain ⟨A3, k3, rfl⟩ := ownN_form hown.r3
  have hb3 := Lib.hid (hb1H.out.trans (hb2.mono hb1H.out.size))
  clear hb2 hown
  generalize (bnG R t x).keys.length = n1 at *
  generalize (bnG R t x).vals.length = n2 at *
  generalize (bnG R t x).kids.length = n3 at *
  generalize decide (bnE R t x = 0) = ok at *
  have hfin := Lib.hid (hb3.out.alloc hb3.out.size (Obj.cells #[Value.slice A1 n1 k1, Value.slice A2 n2 k2, Value.slice A3 n3 k3, Value.int IntKind.u64 ↑n4] 66))
  go_wp2
  go_ret
  exact ⟨rfl, hfin.out⟩
end
end Go.Proofs.YtjcpclcmnhpgpaaGreatDoor

set_option linter.unusedVariables false
set_option linter.unusedSimpArgs false
namespace Go.Proofs.YtjcpclcmnhpgpaaGreatDoor
open Go.RowKit Go.Shelf
section
variable {w w' : World} {s N : Nat} {R : Nat → Option (List Nat)} {nn : Nat}
set_option maxHeartbeats 2000000 in
set_option maxRecDepth 100000 in
theorem btPl1_at (h : Rd N w s R nn) (hsh : Short R) {bt t : Nat} (c0 : w.cell? ⟨bt, 0, none⟩ = some (.pointer (some ⟨s, 0, none⟩))) (c1 : w.cell? ⟨bt, 1, none⟩ = some (.int .i64 (t : Nat))) (x : Nat) (hx : x < 18446744073709551616) (key : ByteArray) :
    Calls Tryz.prog 107 #[.int .u64 (x : Nat), .string key, .pointer (some ⟨bt, 0, none⟩)] w fun e w' => e = .returned (.int .i64 (Tx.cmp (keyB R x) key)) ∧ Below w.heap.size w w' := by
  have hK := Lib.hid (btKey_at h hsh t x hx)
  have hC := Lib.hid (fun W => Tx.cmp_call (keyB R x) key W)
  clear h
  generalize Tx.cmp (keyB R x) key = cc at *
  generalize keyB R x = kk at *
  go_enter Tryz.func107, Tryz.ntmps107
  go_wp2_with fail
  refine hK.out.mono ?_
  rintro e w2 ⟨rfl, hb2⟩
  have hb2H := Lib.hid hb2
  clear hb2
  go_wp2_with fail
  refine (hC.out _).mono ?_
  rintro e w3 ⟨rfl, rfl⟩
  go_wp2
  go_ret
  exact ⟨rfl, hb2H.out⟩
theorem bsF_self (f : Nat → Int) (m lo : Nat) : bsF f m lo lo = lo := by
  cases m <;> simp [bsF]
set_option maxHeartbeats 4000000 in
set_option maxRecDepth 100000 in
theorem bsearch_at (h : Rd N w s R nn) (hsh : Short R) {bt t : Nat} (c0 : w.cell? ⟨bt, 0, none⟩ = some (.pointer (some ⟨s, 0, none⟩))) (c1 : w.cell? ⟨bt, 1, none⟩ = some (.int .i64 (t : Nat))) {F : Nat → Prop} {A : Option Addr} {c : Nat} {l : List Nat} (hc : CellsF w F A (hsV l)) (hl : l.length ≤ 4398046511104) (hx : ∀ i (hi : i < l.length), l[i] < 18446744073709551616) (key : ByteArray) :
    Calls Tryz.prog 106 #[.slice A l.length c, .string key, .func (.func 107) #[] #[.pointer (some ⟨bt, 0, none⟩)]] w fun e w' => e = .returned (.tuple #[.int .i64 (plK R l key : Nat), .bool (plH R l key)]) ∧ Below w.heap.size w w' := by
  have hP := Lib.hid (fun W (hb : Below w.heap.size w W) i (hi : i < l.length) => btPl1_at (h.below hb) hsh (t := t) ((hb.cell (p := ⟨bt, 0, none⟩) (cell_lt c0)).trans c0) ((hb.cell (p := ⟨bt, 1, none⟩) (cell_lt c1)).trans c1) l[i] (hx i hi) key)
  have hN := Lib.hid (fun k (hk : k < l.length) => hc.num hk)
  have hf : Hid (∀ i (hi : i < l.length), Tx.cmp (keyB R l[i]) key = cmpK R l key i) := Lib.hid (fun i hi => by unfold cmpK; simp [hi])
  have hpl : Hid (plK R l key = bsF (cmpK R l key) l.length 0 l.length) := Lib.hid rfl
  have hph : Hid (plH R l key = (decide (plK R l key < l.length) && decide (cmpK R l key (plK R l key) = 0))) := Lib.hid rfl
  clear h hc c0 c1
  generalize cmpK R l key = f at *
  go_enter Tryz.func106, Tryz.ntmps106
  go_wp2
  go_loopw [9, 10] (fun iv jv wr => ∃ m lo hi : Nat, lo ≤ hi ∧ hi ≤ l.length ∧ iv = .int .i64 lo ∧ jv = .int .i64 hi ∧ hi - lo ≤ m ∧ Hid (bsF f l.length 0 l.length = bsF f m lo hi) ∧ Hid (Below w.heap.size w wr)) (fun iv jv _ => (intOf jv).toNat - (intOf iv).toNat)
  case atStart => exact ⟨l.length, 0, l.length, by omega, by omega, rfl, rfl, by omega, Lib.hid rfl, Lib.hid (Below.refl _ _)⟩
  case round =>
    obtain ⟨m, lo, hi, h1, h2, rfl, rfl, hm, hbs, hb⟩ := hrel
    by_cases hlt : lo < hi
    · have w1 : IntKind.i64.wrap ((lo : Int) + (hi : Int)) = (lo : Int) + (hi : Int) := by rw [IntKind.wrap_i64]; omega
      obtain ⟨q, hq0⟩ : ∃ q, q = (lo + hi) / 2 := ⟨_, rfl⟩
      have hq : ((lo : Int) + (hi : Int)) / 2 = (q : Int) := by omega
      have hql : q < l.length := by omega
      have hq1 : lo ≤ q := by omega
      have hq2 : q < hi := by omega
      obtain ⟨b, o, rfl, hbl, hcell⟩ := hN.out q hql
      have hcq := hcell wr hb.out
      have hPq := hP.out wr hb.out q hql
      rw [hf.out q hql] at hPq
      obtain ⟨y, hy⟩ : ∃ y, l[q] = y := ⟨_, rfl⟩
      rw [hy] at hPq hcq
      obtain ⟨m', rfl⟩ : ∃ m', m = m' + 1 := ⟨m - 1, by omega⟩
      have hbs2 : bsF f l.length 0 l.length = if f q < 0 then bsF f m' (q + 1) hi else bsF f m' lo q := by
        have h9 := hbs.out
        conv at h9 => rhs; unfold bsF
        rw [if_pos hlt, ← hq0] at h9
        exact h9
      have hbs3 := Lib.hid hbs2
      have hPH := Lib.hid hPq
      have hq0H := Lib.hid hq0
      have hyH := Lib.hid hy
      clear hcell hPq hbs2 hq0 hbs hy
      have w2 : IntKind.i64.wrap ((q : Int) + 1) = (q : Int) + 1 := by rw [IntKind.wrap_i64]; omega
      go_wp2_with fail
      refine hPH.out.mono ?_
      rintro e W2 ⟨rfl, hb2⟩
      have hb2H := Lib.hid (hb.out.trans (hb2.mono hb.out.size))
      clear hb2 hPH hb hcq
      by_cases hneg : f q < 0
      · have dn : decide (f q < 0) = true := decide_eq_true hneg
        have hbs4 : Hid (bsF f l.length 0 l.length = bsF f m' (q + 1) hi) := Lib.hid (by rw [hbs3.out, if_pos hneg])
        go_wp2
        go_roundw
        case rel => exact ⟨m', q + 1, hi, by omega, h2, by go_num, rfl, by omega, hbs4, hb2H⟩
        case measure => simp [intOf]; omega
      · have dn : decide (f q < 0) = false := decide_eq_false hneg
        have hbs4 : Hid (bsF f l.length 0 l.length = bsF f m' lo q) := Lib.hid (by rw [hbs3.out, if_neg hneg])
        go_wp2
        go_roundw
        case rel => exact ⟨m', lo, q, by omega, by omega, rfl, by go_num, by omega, hbs4, hb2H⟩
        case measure => simp [intOf]; omega
    · obtain rfl : lo = hi := by omega
      have hres : Hid (plK R l key = lo) := Lib.hid (by rw [hpl.out, hbs.out, bsF_self])
      clear hbs
      by_cases hln : lo < l.length
      · obtain ⟨b, o, rfl, hbl, hcell⟩ := hN.out lo hln
        have hcq := hcell wr hb.out
        have hPq := hP.out wr hb.out lo hln
        rw [hf.out lo hln] at hPq
        obtain ⟨y, hy⟩ : ∃ y, l[lo] = y := ⟨_, rfl⟩
        rw [hy] at hPq hcq
        have hPH := Lib.hid hPq
        have hyH := Lib.hid hy
        clear hcell hPq hy
        have hfin : Hid (plH R l key = (f lo == 0)) := Lib.hid (by rw [hph.out, hres.out, decide_eq_true hln, Bool.true_and]; rfl)
        go_wp2_with fail
        refine hPH.out.mono ?_
        rintro e W2 ⟨rfl, hb2⟩
        have hb2H := Lib.hid (hb.out.trans (hb2.mono hb.out.size))
        clear hb2 hPH hb hcq
        go_wp2
        go_ret2
        exact ⟨by rw [hres.out, hfin.out]; rfl, hb2H.out⟩
      · have hfin : Hid (plH R l key = false) := Lib.hid (by rw [hph.out, hres.out, decide_eq_false hln, Bool.false_and])
        go_wp2
        go_ret2
        exact ⟨by rw [hres.out, hfin.out]; rfl, hb.out⟩
end
end Go.Proofs.YtjcpclcmnhpgpaaGreatDoor

set_option linter.unusedVariables false
set_option linter.unusedSimpArgs false
namespace Go.Proofs.YtjcpclcmnhpgpaaGreatDoor
open Go.RowKit Go.Shelf
section
variable {w w' : World} {s N : Nat} {R : Nat → Option (List Nat)} {nn : Nat}
set_option maxHeartbeats 2000000 in
set_option maxRecDepth 100000 in
theorem btPlace_at (h : Rd N w s R nn) (hsh : Short R) {F : Nat → Prop} {v : Value} {n : BN} (hv : BNV w F v n) (t : Nat) (hx : ∀ i (hi : i < n.keys.length), n.keys[i] < 18446744073709551616) (key : ByteArray) :
    Calls Tryz.prog 72 #[.agg #[.pointer (some ⟨s, 0, none⟩), .int .i64 (t : Nat)], v, .string key] w fun e w' => e = .returned (.tuple #[.int .i64 (plK R n.keys key : Nat), .bool (plH R n.keys key)]) ∧ Below w.heap.size w w' := by
  obtain ⟨⟨Ak, ck, Av, cv, Ai, ci, rfl, k1, k2, k3⟩, l1, l2, l3⟩ := hv
  obtain ⟨W1, hW1⟩ : ∃ W, W = w.alloc (Obj.cells #[.pointer (some ⟨s, 0, none⟩), .int .i64 (t : Nat)] 88) := ⟨_, rfl⟩
  have hb1 : Below w.heap.size w W1 := by rw [hW1]; exact (Below.refl _ w).alloc (Nat.le_refl _) _
  have x3 : Box W1 w.heap.size 88 [.pointer (some ⟨s, 0, none⟩), .int .i64 (t : Nat)] := by rw [hW1]; exact Box.new w 88 [.pointer (some ⟨s, 0, none⟩), .int .i64 (t : Nat)]
  obtain ⟨W2, hW2⟩ : ∃ W, W = W1.alloc (Obj.cells #[.slice Ak n.keys.length ck, .slice Av n.vals.length cv, .slice Ai n.kids.length ci, .int .u64 (n.size : Nat)] 66) := ⟨_, rfl⟩
  have hb12 : Below W1.heap.size W1 W2 := by rw [hW2]; exact (Below.refl _ _).alloc (Nat.le_refl _) _
  have hb2 := hb1.trans (hb12.mono hb1.size)
  have x32 := x3.below hb12
  have hS := Lib.hid (bsearch_at (h.below hb2) hsh (t := t) (x32.at' (i := 0) rfl) (x32.at' (i := 1) rfl) (c := ck) (k1.turn (Turn.below (F := F) hb2)) l1 hx key)
  have hb2H := Lib.hid hb2
  have hW2H := Lib.hid (And.intro hW1 hW2)
  clear h hb1 x3 hb12 hb2 x32 hW1 hW2 k1 k2 k3 hx
  generalize plK R n.keys key = pk at *
  generalize plH R n.keys key = ph at *
  go_enter Tryz.func72, Tryz.ntmps72
  go_wp2_with fail
  rw [← hW2H.out.1, ← hW2H.out.2]
  refine hS.out.mono ?_
  rintro e w3 ⟨rfl, hb3⟩
  have hb3H := Lib.hid (hb2H.out.trans (hb3.mono hb2H.out.size))
  clear hb3
  go_wp2
  go_ret2
  exact ⟨rfl, hb3H.out⟩
end
end Go.Proofs.YtjcpclcmnhpgpaaGreatDoor

set_option linter.unusedVariables false
set_option linter.unusedSimpArgs false
namespace Go.Proofs.YtjcpclcmnhpgpaaGreatDoor
open Go.RowKit Go.Shelf
def W64 (l : List Nat) : Prop := ∀ i (hi : i < l.length), l[i] < 18446744073709551616
section
variable {w w' : World} {s N : Nat} {R : Nat → Option (List Nat)} {nn : Nat}
theorem bnG_words (h : Rd N w s R nn) {t : Nat} (ht : BN.Deg t) {x : Nat} (he : bnE R t x = 0) :
    (bnG R t x).Fits t ∧ W64 (bnG R t x).keys ∧ W64 (bnG R t x).vals ∧ W64 (bnG R t x).kids ∧ (bnG R t x).size < 18446744073709551616 := by
  obtain ⟨hR, hf⟩ := (bnE_zero ht).1 he
  generalize bnG R t x = n at *
  obtain ⟨-, -, hu⟩ := h.u64 hR
  have t1 := ht.1
  obtain ⟨f1, f2, f3⟩ := hf
  have key : ∀ i, i < 6 * t → n.wdAt t i < 18446744073709551616 := fun i hi => by
    have h1 : i < (n.wd t).length := by rw [BN.wd_len]; exact hi
    have h2 := hu i h1
    rwa [BN.wd_get] at h2
  refine ⟨⟨f1, f2, f3⟩, fun i hi => ?_, fun i hi => ?_, fun i hi => ?_, ?_⟩
  · have h2 := key (2 + 2 * i) (by omega)
    rw [BN.at_key (by omega)] at h2
    simpa [hi] using h2
  · have h2 := key (2 + 2 * i + 1) (by omega)
    rw [BN.at_val (by omega)] at h2
    simpa [hi] using h2
  · have hk : i < 2 * t := by rcases f3 with h9 | h9
                              · rw [h9] at hi; simp at hi
                              · omega
    have h2 := key (4 * t + i) (by omega)
    rw [BN.at_kid t1] at h2
    simpa [hi] using h2
  · have h2 := key 1 (by omega)
    rwa [BN.at_one] at h2
set_option maxRecDepth 100000 in
theorem btAsked_at (h : Rd N w s R nn) {t : Nat} (ht : BN.Deg t) :
    Calls Tryz.prog 37 #[.pointer (some ⟨s, 0, none⟩), .int .i64 (t : Nat)] w fun e w' => e = .returned (.int .i64 0) ∧ w = w' := by
  have hL := rlen_at h 0 (by decide)
  obtain ⟨la, lb, hlr, hl1⟩ := lenR_form R 0
  rw [hlr] at hL
  have d1 : ((lb : Int) == 1) = false := by simp; omega
  have hLH := Lib.hid hL
  have t1 := ht.1
  have d2 : (((6 * t : Nat) : Int) == 0) = false := by simp; omega
  have hW := Lib.hid (bnWords_yes ht w)
  clear h hL hlr hl1
  generalize 6 * t = tw at *
  go_enter Tryz.func37, Tryz.ntmps37
  go_wp2_with fail
  refine hLH.out.mono ?_
  rintro e w2 ⟨rfl, rfl⟩
  go_wp2_with fail
  refine hW.out.mono ?_
  rintro e w2 ⟨rfl, rfl⟩
  go_wp2
  go_ret
  exact ⟨rfl, rfl⟩
end
end Go.Proofs.YtjcpclcmnhpgpaaGreatDoor

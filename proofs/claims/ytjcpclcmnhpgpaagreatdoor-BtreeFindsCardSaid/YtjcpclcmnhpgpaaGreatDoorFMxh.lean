/-
  The seat's own texts, part xh: BtW8, BtW9.
-/
import Derived.Test.YtjcpclcmnhpgpaaGreatDoorFMxe
import Derived.Test.YtjcpclcmnhpgpaaGreatDoorFMxg

set_option linter.unusedVariables false
set_option linter.unusedSimpArgs false
namespace Go.Proofs.YtjcpclcmnhpgpaaGreatDoor
open Go.RowKit Go.Shelf
def Rw (w w' : World) (r r' : Option Nat) : Prop := w.grownBy w' r ∧ (r' = r ∨ ∀ k, r' = some k → w.heap.size ≤ k)
theorem Rw.below {w w' : World} (h : Below w.heap.size w w') (r : Option Nat) : Rw w w' r r := ⟨⟨h.os, h.tape, h.output, h.size, fun k hk _ => h.block k hk⟩, .inl rfl⟩
theorem Rw.trans {w w1 w2 : World} {r r1 r2 : Option Nat} (h : Rw w w1 r r1) (g : Rw w1 w2 r1 r2) : Rw w w2 r r2 := by
  refine ⟨⟨g.1.os.trans h.1.os, g.1.tape.trans h.1.tape, g.1.output.trans h.1.output, Nat.le_trans h.1.size g.1.size, fun k hk hn => (g.1.block k (Nat.lt_of_lt_of_le hk h.1.size) (fun e => ?_)).trans (h.1.block k hk hn)⟩, ?_⟩
  · rcases h.2 with h2 | h2
    · exact hn (e.trans h2)
    · have := h2 k e.symm; omega
  · rcases g.2 with g2 | g2
    · rw [g2]; exact h.2
    · exact .inr fun k hk => Nat.le_trans h.1.size (g2 k hk)
theorem Rw.cell {w w' : World} {r r' : Option Nat} (h : Rw w w' r r') {p : Addr} {v : Value} (hc : w.cell? p = some v) (hr : some p.block ≠ r) : w'.cell? p = some v := (World.cell?_of_block (h.1.block p.block (cell_lt hc) hr)).trans hc
theorem Rw.low {w w' : World} {r r' : Option Nat} (h : Rw w w' r r') {B : Nat} (hB : B ≤ w.heap.size) (hr : ∀ k, r = some k → B ≤ k) : Below B w w' := ⟨h.1.os, h.1.tape, h.1.output, h.1.size, fun k hk => h.1.block k (by omega) (fun e => by have := hr k e.symm; omega)⟩
theorem Rd.rw {w w' : World} {s N nn : Nat} {R : Nat → Option (List Nat)} {r r' : Option Nat} (h : Rd N w s R nn) (g : Rw w w' r r') (hN : N ≤ w.heap.size) (hr : ∀ k, r = some k → N ≤ k) : Rd N w' s R nn := h.kb (KB.from_below (g.low hN hr) (Nat.le_refl _)) fun _ hk => hk
theorem rows_keep {w w' : World} {B : Nat} {e : TypeId} {sz n : Nat} {v : Value} {xs : List Value} (h : w.ownsRow B e sz v n xs) (hk : ∀ k, v.ownBlock = some k → w'.heap[k]? = w.heap[k]?) : w'.ownsRow B e sz v n xs := by
  refine ⟨h.1, ?_⟩
  rcases h.2 with h2 | ⟨g, cap, cur, h2, h3, h4, h5⟩
  · exact .inl h2
  · refine .inr ⟨g, cap, cur, h2, h3, ?_, h5⟩
    rw [hk g (by rw [h2]; rfl)]; exact h4
theorem rows_lt {w : World} {B : Nat} {e : TypeId} {sz n : Nat} {v : Value} {xs : List Value} (h : w.ownsRow B e sz v n xs) : ∀ k, v.ownBlock = some k → k < w.heap.size := fun k hk => by
  rcases h.2 with ⟨h2, _⟩ | ⟨g, cap, cur, h2, h3, h4, h5⟩
  · rw [h2] at hk; cases hk
  · rw [h2] at hk
    obtain rfl : g = k := by simpa [Value.ownBlock] using hk
    exact (Array.getElem?_eq_some_iff.1 h4).1
theorem row_below {w w' : World} {B : Nat} {e : TypeId} {sz n : Nat} {v : Value} {xs : List Value} (h : w.ownsRow B e sz v n xs) (hb : Below w.heap.size w w') : w'.ownsRow B e sz v n xs := rows_keep h fun k hk => hb.block k (rows_lt h k hk)
theorem Own3.ge {w : World} {B : Nat} {v1 v2 v3 : Value} {l1 l2 l3 : List Nat} (h : Own3 w B v1 l1 v2 l2 v3 l3) : ∀ k, v3.ownBlock = some k → B ≤ k := fun k hk => (row_ge h.r3 hk).1
theorem bnodes_len {R : Nat → Option (List Nat)} {t most : Nat} : ∀ (f : Nat) (out : List Nat) (h : Nat), out.length ≤ (bnodes R t most f out h).length ∧ (bnodes R t most f out h).length ≤ max out.length most
  | 0, out, h => by unfold bnodes; omega
  | f + 1, out, h => by
    unfold bnodes
    split
    · omega
    · next hc =>
      have hfold : ∀ (l : List Nat) (o : List Nat), o.length ≤ (l.foldl (bnodes R t most f) o).length ∧ (l.foldl (bnodes R t most f) o).length ≤ max o.length most := by
        intro l
        induction l with
        | nil => intro o; simp only [List.foldl_nil]; omega
        | cons x l ih =>
          intro o
          rw [List.foldl_cons]
          have h1 := bnodes_len (R := R) (t := t) (most := most) f o x
          have h2 := ih (bnodes R t most f o x)
          omega
      have := hfold (bnG R t h).kids (out ++ [h])
      rw [List.length_append, List.length_singleton] at this
      omega
def NodesR (N : Nat) (w : World) (r : Option Nat) (l : List Nat) (e : Ending) (w' : World) : Prop :=
  ∃ v', e = .returned v' ∧ w'.ownsRow N 31 1 v' l.length (hsV l) ∧ Rw w w' r v'.ownBlock
section
variable {s N : Nat} {R : Nat → Option (List Nat)} {nn : Nat}
set_option maxHeartbeats 8000000 in
set_option maxRecDepth 100000 in
theorem btNodes_at (t : Nat) (ht : BN.Deg t) (most : Nat) (hm : most ≤ 262145) : ∀ (f : Nat), f ≤ 40 → ∀ (w : World) (h : Rd N w s R nn) (hN : N ≤ w.heap.size) (x : Nat) (hx : x < 18446744073709551616) (out : List Nat) (v : Value) (hrow : w.ownsRow N 31 1 v out.length (hsV out)) (hol : out.length ≤ 262145),
    Calls Tryz.prog 47 #[.agg #[.pointer (some ⟨s, 0, none⟩), .int .i64 (t : Nat)], v, .int .u64 (x : Nat), .int .i64 (most : Nat), .int .i64 ((40 - f : Nat) : Int)] w (NodesR N w v.ownBlock (bnodes R t most f out x)) := by
  intro f
  induction f with
  | zero =>
    intro _ w h hN x hx out v hrow hol
    obtain ⟨A, c, rfl⟩ := ownsRow_form hrow
    have hb1 : Below w.heap.size w (w.alloc (Obj.cells #[.pointer (some ⟨s, 0, none⟩), .int .i64 (t : Nat)] 88)) := (Below.refl _ w).alloc (Nat.le_refl _) _
    have hGtH := Lib.hid (btGet_at (h.below hb1) t ht x hx)
    have hb1H := Lib.hid hb1
    have hrowH := Lib.hid hrow
    have d40 : ((40 - 0 : Nat) : Int) = 40 := rfl
    rw [d40]
    clear d40 h hb1 hrow
    go_enter Tryz.func47, Tryz.ntmps47
    go_wp2_with fail
    refine hGtH.out.mono ?_
    rintro e w2 ⟨v1, v2, v3, rfl, hown, hb2⟩
    obtain ⟨A1, q1, rfl⟩ := ownN_form hown.r1
    obtain ⟨A2, q2, rfl⟩ := ownN_form hown.r2
    obtain ⟨A3, q3, rfl⟩ := ownN_form hown.r3
    have hb3 := hb1H.out.trans (hb2.mono hb1H.out.size)
    have hb4 := hb3.alloc hb3.size (Obj.cells #[Value.slice A1 (bnG R t x).keys.length q1, Value.slice A2 (bnG R t x).vals.length q2, Value.slice A3 (bnG R t x).kids.length q3, Value.int IntKind.u64 ((bnG R t x).size : Nat)] 66)
    have hfin : Hid (NodesR N w (Value.slice A out.length c).ownBlock out (.returned (.slice A out.length c)) (w2.alloc (Obj.cells #[Value.slice A1 (bnG R t x).keys.length q1, Value.slice A2 (bnG R t x).vals.length q2, Value.slice A3 (bnG R t x).kids.length q3, Value.int IntKind.u64 ((bnG R t x).size : Nat)] 66))) := Lib.hid ⟨_, rfl, row_below hrowH.out hb4, Rw.below hb4 _⟩
    have hE : Hid (bnodes R t most 0 out x = out) := Lib.hid rfl
    generalize (bnG R t x).keys.length = n1 at *
    generalize (bnG R t x).vals.length = n2 at *
    generalize (bnG R t x).kids.length = n3 at *
    generalize (bnG R t x).size = n4 at *
    clear hb3 hb4 hb2 hown
    cases decide (bnE R t x = 0) with
    | true =>
      go_wp2
      go_ret
      rw [hE.out]
      exact hfin.out
    | false =>
      go_wp2
      go_ret
      rw [hE.out]
      exact hfin.out
  | succ f ih =>
    intro hf w h hN x hx out v hrow hol
    obtain ⟨A, c, rfl⟩ := ownsRow_form hrow
    obtain ⟨i0, hi, hz0, hz1', hz2⟩ := info_parts Tryz.info_handle
    obtain ⟨W1, hW1⟩ : ∃ W, W = w.alloc (Obj.cells #[.pointer (some ⟨s, 0, none⟩), .int .i64 (t : Nat)] 88) := ⟨_, rfl⟩
    have hb1 : Below w.heap.size w W1 := by rw [hW1]; exact (Below.refl _ w).alloc (Nat.le_refl _) _
    obtain ⟨b5, hb5⟩ : ∃ b, b = w.heap.size := ⟨_, rfl⟩
    have x5 : Box W1 b5 88 [.pointer (some ⟨s, 0, none⟩), .int .i64 (t : Nat)] := by rw [hW1, hb5]; exact Box.new w _ _
    have hGt := btGet_at (h.below hb1) t ht x hx
    obtain ⟨d, hd⟩ : ∃ d, d = 40 - (f + 1) := ⟨_, rfl⟩
    have hd40 : d < 40 := by omega
    rw [← hd]
    have hb1H := Lib.hid hb1
    have hW1H := Lib.hid (And.intro hW1 hb5)
    have x5H := Lib.hid x5
    have hGtH := Lib.hid hGt
    have hH := Lib.hid h
    have hrowH := Lib.hid hrow
    have hdH := Lib.hid hd
    have ihH := Lib.hid ih
    have g5 : w.heap.size ≤ b5 := by omega
    clear hW1 hb5 x5 hGt h hrow hb1 hd ih
    have hunf : Hid (bnodes R t most (f + 1) out x = if bnE R t x ≠ 0 ∨ most ≤ out.length then out else (bnG R t x).kids.foldl (bnodes R t most f) (out ++ [x])) := Lib.hid (by conv => lhs; unfold bnodes)
    go_enter Tryz.func47, Tryz.ntmps47
    have d40 : ((d : Int) == 40) = false := by simp; omega
    have e50 := x5H.out.at' (i := 0) rfl
    have e51 := x5H.out.at' (i := 1) rfl
    rw [hW1H.out.1, hW1H.out.2] at e50 e51
    go_wp2_with fail
    rw [← hW1H.out.1, ← hW1H.out.2]
    refine hGtH.out.mono ?_
    rintro e w2 ⟨v1, v2, v3, rfl, hown, hb2⟩
    obtain ⟨A1, q1, rfl⟩ := ownN_form hown.r1
    obtain ⟨A2, q2, rfl⟩ := ownN_form hown.r2
    obtain ⟨A3, q3, rfl⟩ := ownN_form hown.r3
    obtain ⟨n, hn⟩ : ∃ n, n = bnG R t x := ⟨_, rfl⟩
    rw [← hn] at hown
    rw [← hn]
    obtain ⟨W3, hW3⟩ : ∃ W, W = w2.alloc (Obj.cells #[.slice A1 n.keys.length q1, .slice A2 n.vals.length q2, .slice A3 n.kids.length q3, .int .u64 (n.size : Nat)] 66) := ⟨_, rfl⟩
    obtain ⟨b11, hb11⟩ : ∃ b, b = w2.heap.size := ⟨_, rfl⟩
    have hb23 : Below w2.heap.size w2 W3 := by rw [hW3]; exact (Below.refl _ _).alloc (Nat.le_refl _) _
    have x11 : Box W3 b11 66 [.slice A1 n.keys.length q1, .slice A2 n.vals.length q2, .slice A3 n.kids.length q3, .int .u64 (n.size : Nat)] := by rw [hW3, hb11]; exact Box.new w2 _ _
    have hb03 := Lib.hid (hb1H.out.trans ((hb2.trans (hb23.mono hb2.size)).mono hb1H.out.size))
    have x5w := Lib.hid ((x5H.out.below hb2).below hb23)
    have x11H := Lib.hid x11
    have hownH := Lib.hid (hown.below hb23)
    have hW3H := Lib.hid (And.intro hW3 hb11)
    have hnH := Lib.hid hn
    have hrow3 := Lib.hid (row_below hrowH.out hb03.out)
    have hb11w : w.heap.size ≤ b11 := by have := hb1H.out.size; have := hb2.size; omega
    have hfin0 : Hid (bnE R t x ≠ 0 ∨ most ≤ out.length → NodesR N w (Value.slice A out.length c).ownBlock (bnodes R t most (f + 1) out x) (.returned (.slice A out.length c)) W3) := Lib.hid (fun h => by
      rw [hunf.out, if_pos h]
      exact ⟨_, rfl, hrow3.out, Rw.below hb03.out _⟩)
    clear hn hb2 hb23 hown hW3 hb11 x11
    by_cases he : bnE R t x = 0
    · rw [decide_eq_true he]
      have hw := bnG_words (hH.out.below hb03.out) ht he
      rw [← hnH.out] at hw
      obtain ⟨hfit, wk, wv, wc, hsz⟩ := hw
      have hkl : n.kids.length ≤ 33 := by
        have := ht.2
        rcases hfit.2.2 with h9 | h9
        · rw [h9]; simp
        · have := hfit.1; omega
      have wcH := Lib.hid wc
      have heH := Lib.hid he
      clear hfit wk wv wc he
      by_cases hlt : most ≤ out.length
      · have dl : decide ((out.length : Int) ≥ (most : Int)) = true := decide_eq_true (by omega)
        go_wp2
        rw [← hW3H.out.1]
        go_ret
        exact hfin0.out (.inr hlt)
      · have dl : decide ((out.length : Int) ≥ (most : Int)) = false := decide_eq_false (by omega)
        have hxk : Hid (bnodes R t most (f + 1) out x = n.kids.foldl (bnodes R t most f) (out ++ [x])) := Lib.hid (by rw [hunf.out, if_neg (by rintro (h9 | h9); exact h9 heH.out; exact hlt h9), hnH.out])
        have hNW : N ≤ W3.heap.size := Nat.le_trans hN hb03.out.size
        go_upto_region 4 with (fail)
        rw [← hW3H.out.1, ← hW3H.out.2]
        go_upto_region 5 with (at_builtin; refine wpList_append_own_at _ rfl _ _ 51 rfl N 31 i0 (.int .u64 0) 1 8 Tryz.under_handles hi hz0 hz1' hz2 rfl (by decide) _ _ _ rfl (hrow3.out.alloc _) ⟨W3.heap.size, 0, none⟩ 1 1 [.int .u64 (x : Int)] rfl rfl (cell_one_new _ _ _) (by simp [Value.oneCell']) (by unfold maxLen; omega) (by omega) (by simp; omega) ?_; intro v' w4 hown' hgrow _ hblk)
        have hown' : w4.ownsRow N 31 1 v' (out ++ [x]).length (hsV (out ++ [x])) := by rw [hsV_snoc, List.length_append]; exact hown'
        obtain ⟨o1, ho1⟩ : ∃ o, o = out ++ [x] := ⟨_, rfl⟩
        rw [← ho1] at hown'
        have hrw4 : Rw W3 w4 (Value.slice A out.length c).ownBlock v'.ownBlock := by
          refine ⟨⟨hgrow.os, hgrow.tape, hgrow.output, Nat.le_trans (by simp) hgrow.size, fun k hk hn => (hgrow.block k (by simp; omega) hn).trans (Below.heap_alloc W3 _ k hk)⟩, ?_⟩
          rcases hblk with h9 | h9
          · exact .inl h9
          · exact .inr fun k hk => by rw [h9] at hk; simp at hk; omega
        have hownr := Lib.hid hown'
        have hrw4H := Lib.hid hrw4
        have hol1 : o1.length ≤ 262145 := by rw [ho1]; simp; omega
        have hoH := Lib.hid ho1
        clear hown' hrw4 hgrow hblk ho1
        obtain ⟨rO, hrO⟩ : ∃ r, r = (Value.slice A out.length c).ownBlock := ⟨_, rfl⟩
        have hrOw : Hid (∀ k, rO = some k → k < w.heap.size ∧ N ≤ k) := Lib.hid (by rw [hrO]; exact fun k hk => ⟨rows_lt hrowH.out k hk, ownBlock_low hrowH.out k hk⟩)
        rw [← hrO] at hrw4H
        have hrOH := Lib.hid hrO
        have hgo3 : Hid (∀ k, A3 = some k → w.heap.size ≤ k.block) := Lib.hid (fun k hk => Nat.le_trans hb1H.out.size (hownH.out.ge k.block (by rw [hk]; rfl)))
        clear hrO
        rw [← hrOH.out]
        have l11 := x11H.out.lt
        have hQ : Hid (∀ v2 w2 l, l = n.kids.length → w2.ownsRow N 31 1 v2 ((n.kids.take l).foldl (bnodes R t most f) o1).length (hsV ((n.kids.take l).foldl (bnodes R t most f) o1)) → Rw W3 w2 rO v2.ownBlock → NodesR N w rO (bnodes R t most (f + 1) out x) (.returned v2) w2) := Lib.hid (fun v2 w2 l hl h1 h2 => by
          subst hl
          rw [List.take_length] at h1
          rw [hxk.out, ← hoH.out]
          exact ⟨v2, rfl, h1, (Rw.below hb03.out rO).trans h2⟩)
        have e112 : w4.cell? ⟨b11, 2, none⟩ = some (.slice A3 n.kids.length q3) := hrw4H.out.cell (x11H.out.at' (i := 2) rfl) (fun h9 => by have := (hrOw.out b11 h9.symm).1; omega)
        go_wp2
        go_loopw [1, 41] (fun vv kv wr => ∃ k : Nat, k ≤ n.kids.length ∧ kv = .int .i64 k ∧ Hid (wr.ownsRow N 31 1 vv ((n.kids.take k).foldl (bnodes R t most f) o1).length (hsV ((n.kids.take k).foldl (bnodes R t most f) o1)) ∧ Rw W3 wr rO vv.ownBlock)) (fun _ kv _ => n.kids.length - (intOf kv).toNat)
        case atStart => exact ⟨0, Nat.zero_le _, rfl, Lib.hid ⟨hownr.out, hrw4H.out⟩⟩
        case round =>
          obtain ⟨k, hk, rfl, hr⟩ := hrel
          by_cases hlt2 : k < n.kids.length
          · obtain ⟨b, o, hA3, hbl, hcell⟩ := CellsF.num (F := fun _ => False) (by obtain ⟨A', c', e1, h1⟩ := row_cellsF (F := fun _ => False) hownH.out.r3 (fun _ h => h.elim); cases e1; exact h1) hlt2
            have hbw : w.heap.size ≤ b := hgo3.out _ hA3
            have hck := hr.out.2.cell (hcell W3 (Below.refl _ _)) (fun h9 => by have := (hrOw.out b h9.symm).1; omega)
            have hcx := wcH.out k hlt2
            obtain ⟨y, hy⟩ : ∃ y, n.kids[k] = y := ⟨_, rfl⟩
            rw [hy] at hck hcx
            have hnext : Hid ((n.kids.take (k + 1)).foldl (bnodes R t most f) o1 = bnodes R t most f ((n.kids.take k).foldl (bnodes R t most f) o1) y) := Lib.hid (by rw [List.take_succ_eq_append_getElem hlt2, List.foldl_append, hy]; rfl)
            have e50 := hr.out.2.cell (x5w.out.at' (i := 0) rfl) (fun h9 => by have := (hrOw.out b5 h9.symm).1; omega)
            have e51 := hr.out.2.cell (x5w.out.at' (i := 1) rfl) (fun h9 => by have := (hrOw.out b5 h9.symm).1; omega)
            have hRr := (hH.out.below hb03.out).rw hr.out.2 hNW (fun k hk => (hrOw.out k hk).2)
            have hNr : N ≤ wr.heap.size := Nat.le_trans hNW hr.out.2.1.size
            have hlen := bnodes_len (R := R) (t := t) (most := most)
            obtain ⟨oo, hoo⟩ : ∃ oo, oo = (n.kids.take k).foldl (bnodes R t most f) o1 := ⟨_, rfl⟩
            have hool : oo.length ≤ 262145 := by
              have hfold : ∀ (l o : List Nat), o.length ≤ 262145 → (l.foldl (bnodes R t most f) o).length ≤ 262145 := by
                intro l
                induction l with
                | nil => exact fun o h => h
                | cons a l ih => intro o h; rw [List.foldl_cons]; exact ih _ (by have := (hlen f o a).2; omega)
              rw [hoo]; exact hfold _ _ (by omega)
            rw [← hoo] at hnext
            have hr1 := hr.out.1
            rw [← hoo] at hr1
            have hrc := ihH.out (by omega) wr hRr hNr y hcx oo _ hr1 hool
            rw [show 40 - f = d + 1 by rw [hdH.out]; omega] at hrc
            have hr2 := Lib.hid hr.out.2
            have hrcH := Lib.hid hrc
            have hooH := Lib.hid hoo
            subst hA3
            clear hr hr1 hrc hcell hlen hy hoo hRr
            go_wp2_with fail
            refine hrcH.out.mono ?_
            rintro e w5 ⟨v5, rfl, ho5, hrw5⟩
            have hr5 := Lib.hid (And.intro ho5 (hr2.out.trans hrw5))
            clear ho5 hrw5
            go_wp2
            go_roundw
            case rel => exact ⟨k + 1, by omega, by go_num, by rw [hnext.out]; exact hr5⟩
            case measure => simp [intOf]; omega
          · obtain rfl : k = n.kids.length := by omega
            have hqe := hQ.out _ _ _ rfl hr.out.1 hr.out.2
            rw [hrOH.out] at hqe
            have hqH := Lib.hid hqe
            clear hqe
            go_wp2
            go_ret
            exact hqH.out
    · rw [decide_eq_false he]
      go_wp2
      rw [← hW3H.out.1]
      go_ret
      exact hfin0.out (.inl he)
theorem mostN_le {nn t : Nat} (h : nn ≤ 262144) : mostN nn t ≤ 262145 := by
  unfold mostN
  have := Nat.div_le_self nn (6 * t)
  omega
set_option maxHeartbeats 4000000 in
set_option maxRecDepth 100000 in
theorem btNods_at {w : World} (h : Rd N w s R nn) (t : Nat) (ht : BN.Deg t) (x : Nat) (hx : x < 18446744073709551616) :
    Calls Tryz.prog 20 #[.pointer (some ⟨s, 0, none⟩), .int .i64 (t : Nat), .int .u64 (x : Nat)] w fun e w' => ∃ v', e = .returned v' ∧ w'.ownsRow w.heap.size 31 1 v' (bnodes R t (mostN nn t) 40 [] x).length (hsV (bnodes R t (mostN nn t) 40 [] x)) ∧ Below w.heap.size w w' := by
  have hmo : Tryz.prog.follows .mixedOrders = true := by kernel_rfl
  have h := h.here
  have hle := h.le
  have hA := Lib.hid (btAsked_at h ht)
  obtain ⟨W0, hW0⟩ : ∃ W, W = w.alloc (Obj.cells #[.pointer (some ⟨s, 0, none⟩), .int .i64 (t : Nat)] 88) := ⟨_, rfl⟩
  have hb1 : Below w.heap.size w W0 := by rw [hW0]; exact (Below.refl _ w).alloc (Nat.le_refl _) _
  obtain ⟨b7, hb7⟩ : ∃ b, b = w.heap.size := ⟨_, rfl⟩
  have x1 : Box W0 b7 88 [.pointer (some ⟨s, 0, none⟩), .int .i64 (t : Nat)] := by rw [hW0, hb7]; exact Box.new w _ _
  have hM := Lib.hid (fun W (hb : Below w.heap.size w W) => btMost_at (h.below hb) t ht)
  have hNd := Lib.hid (fun W (hb : Below w.heap.size w W) => btNodes_at t ht (mostN nn t) (mostN_le hle) 40 (Nat.le_refl _) W (h.below hb) hb.size x hx [] (.slice none 0 0) (World.ownsRow_nil _ _ _ _) (by simp))
  rw [show ((40 - 40 : Nat) : Int) = 0 from rfl] at hNd
  generalize bnodes R t (mostN nn t) 40 [] x = l at *
  generalize mostN nn t = m at *
  have hb1H := Lib.hid hb1
  have hWH := Lib.hid (And.intro hW0 hb7)
  have c0 := fun X : Exw (fun _ => False) W0 => X.cell (x1.at' (i := 0) rfl) (fun h => h)
  have c1 := fun X : Exw (fun _ => False) W0 => X.cell (x1.at' (i := 1) rfl) (fun h => h)
  clear hW0 hb7 hb1 x1 h hle
  go_enter Tryz.func20, Tryz.ntmps20
  go_wp2_with fail
  refine hA.out.mono ?_
  rintro e w1 ⟨rfl, rfl⟩
  go_wp2
  rw [← hWH.out.1, ← hWH.out.2]
  refine wp_region_steps (fun w' => ∃ X : Exw (fun _ => False) W0, w' = X.W) [.r 0, .r 1, .r 2, .a 3, .a 4, .r 5] hmo (by kernel_rfl) rfl (by kernel_rfl) (exw_start _ _) (fun _ _ d _ _ h => by cases d <;> exact h) ?_
  refine wpSteps_r _ _ rfl rfl (by rintro _ ⟨X, rfl⟩; go_simp; exact rfl) ?_
  go_simp
  refine wpSteps_r _ _ rfl rfl (by rintro _ ⟨X, rfl⟩; go_simp; exact rfl) ?_
  go_simp
  refine wpSteps_r _ _ rfl rfl (by rintro _ ⟨X, rfl⟩; go_simp; exact rfl) ?_
  go_simp
  clear c0 c1
  have hbd := Lib.hid (hb1H.out.trans ((below_drawn W0).mono hb1H.out.size))
  refine wpSteps_a _ rfl (fun K1 hK1 => ?_)
  go_wp2_with fail
  refine (hM.out _ hbd.out).mono ?_
  rintro e w2 ⟨rfl, hb2⟩
  have hb3 := Lib.hid (hbd.out.trans (hb2.mono hbd.out.size))
  have hb4 := Lib.hid ((below_drawn W0).trans hb2)
  clear hb2
  go_wp2
  refine hK1 _ _ (exw_below hb4.out) ?_
  clear hK1 K1
  refine wpSteps_a _ rfl (fun K2 hK2 => ?_)
  go_wp2_with fail
  refine (hNd.out _ hb3.out).mono ?_
  rintro e w3 ⟨v', rfl, ho, hrw⟩
  have hb5 := Lib.hid (hb4.out.trans ((hrw.low (Nat.le_refl _) (fun k hk => by cases hk)).mono hb4.out.size))
  have hb6 := Lib.hid (hb3.out.trans ((hrw.low (Nat.le_refl _) (fun k hk => by cases hk)).mono hb3.out.size))
  have hoH := Lib.hid ho
  clear ho hrw
  go_wp2
  refine hK2 _ _ (exw_below hb5.out) ?_
  clear hK2 K2
  refine wpSteps_r _ _ rfl rfl (by rintro _ ⟨X, rfl⟩; go_simp; exact rfl) ?_
  go_simp
  refine wpSteps_nil ?_
  go_wp2
  go_ret
  exact ⟨_, rfl, hoH.out, hb6.out⟩
end
end Go.Proofs.YtjcpclcmnhpgpaaGreatDoor

set_option linter.unusedVariables false
set_option linter.unusedSimpArgs false
namespace Go.Proofs.YtjcpclcmnhpgpaaGreatDoor
open Go.RowKit Go.Shelf
section
variable {s N : Nat} {R : Nat → Option (List Nat)} {nn : Nat}
set_option maxHeartbeats 8000000 in
set_option maxRecDepth 100000 in
theorem btHeight_at {w : World} (h : Rd N w s R nn) (t : Nat) (ht : BN.Deg t) (x : Nat) (hx : x < 18446744073709551616) :
    Calls Tryz.prog 23 #[.pointer (some ⟨s, 0, none⟩), .int .i64 (t : Nat), .int .u64 (x : Nat)] w fun e w' => e = .returned (.int .i64 (bheight R t 40 x : Nat)) ∧ Below w.heap.size w w' := by
  have hA := Lib.hid (btAsked_at h ht)
  have hH := Lib.hid h
  have hfin : Hid (∀ (m : Nat) W, bheight R t 40 x = m → Below w.heap.size w W → (Ending.returned (.int .i64 (m : Nat)) = Ending.returned (.int .i64 (bheight R t 40 x : Nat)) ∧ Below w.heap.size w W)) := Lib.hid (fun m W h1 h2 => ⟨by rw [h1], h2⟩)
  obtain ⟨D, hD⟩ : ∃ D, D = bheight R t 40 x := ⟨_, rfl⟩
  have hDH := Lib.hid hD
  clear h hD
  go_enter Tryz.func23, Tryz.ntmps23
  go_wp2_with fail
  refine hA.out.mono ?_
  rintro e w1 ⟨rfl, rfl⟩
  go_wp2
  go_loopw [2, 7] (fun xv hv wr => ∃ (i x' : Nat), i ≤ 40 ∧ x' < 18446744073709551616 ∧ xv = .int .u64 (x' : Nat) ∧ hv = .int .i64 (i : Nat) ∧ Hid (D = bheight R t (40 - i) x' + i) ∧ Hid (Below w.heap.size w wr)) (fun _ hv _ => 40 - (intOf hv).toNat)
  case atStart => exact ⟨0, x, by omega, hx, rfl, rfl, hDH, Lib.hid (Below.refl _ _)⟩
  case round =>
    obtain ⟨i, y, hi, hy, rfl, rfl, hd, hb⟩ := hrel
    have hGt := Lib.hid (btGet_at (hH.out.below hb.out) t ht y hy)
    go_wp2_with fail
    refine hGt.out.mono ?_
    rintro e w2 ⟨v1, v2, v3, rfl, hown, hb2⟩
    obtain ⟨A1, q1, rfl⟩ := ownN_form hown.r1
    obtain ⟨A2, q2, rfl⟩ := ownN_form hown.r2
    obtain ⟨A3, q3, rfl⟩ := ownN_form hown.r3
    obtain ⟨n, hn⟩ : ∃ n, n = bnG R t y := ⟨_, rfl⟩
    rw [← hn] at hown
    rw [← hn]
    obtain ⟨W3, hW3⟩ : ∃ W, W = w2.alloc (Obj.cells #[.slice A1 n.keys.length q1, .slice A2 n.vals.length q2, .slice A3 n.kids.length q3, .int .u64 (n.size : Nat)] 66) := ⟨_, rfl⟩
    obtain ⟨b8, hb8⟩ : ∃ b, b = w2.heap.size := ⟨_, rfl⟩
    have hb23 : Below w2.heap.size w2 W3 := by rw [hW3]; exact (Below.refl _ _).alloc (Nat.le_refl _) _
    have x8 : Box W3 b8 66 [.slice A1 n.keys.length q1, .slice A2 n.vals.length q2, .slice A3 n.kids.length q3, .int .u64 (n.size : Nat)] := by rw [hW3, hb8]; exact Box.new w2 _ _
    have hb3 := Lib.hid (hb.out.trans ((hb2.trans (hb23.mono hb2.size)).mono hb.out.size))
    have x8H := Lib.hid x8
    have hownH := Lib.hid (hown.below hb23)
    have hW3H := Lib.hid (And.intro hW3 hb8)
    have hnH := Lib.hid hn
    clear hn hb2 hb23 hown hW3 hb8 x8 hb hGt
    by_cases he : bnE R t y = 0
    · rw [decide_eq_true he]
      have hw := bnG_words (hH.out.below hb3.out) ht he
      rw [← hnH.out] at hw
      obtain ⟨hfit, wk, wv, wc, hsz⟩ := hw
      have hkl : n.kids.length ≤ 33 := by
        have := ht.2
        rcases hfit.2.2 with h9 | h9
        · rw [h9]; simp
        · have := hfit.1; omega
      have wcH := Lib.hid wc
      have heH := Lib.hid he
      clear hfit wk wv wc he
      by_cases h40 : i = 40
      · have d40 : ((i : Int) == 40) = true := by rw [h40]; rfl
        have hf := Lib.hid (hfin.out i W3 (by rw [← hDH.out, hd.out, h40]; simp [bheight]) hb3.out)
        clear h40
        go_wp2
        rw [← hW3H.out.1]
        go_ret
        exact hf.out
      · have d40 : ((i : Int) == 40) = false := by simp; omega
        obtain ⟨m, hm⟩ : ∃ m, 40 - i = m + 1 := ⟨39 - i, by omega⟩
        have hst : D = (if n.kids = [] then 1 else bheight R t m (n.kids.getD 0 0) + 1) + i := by
          rw [hd.out, hm]
          conv => lhs; unfold bheight
          rw [if_neg (fun h => h heH.out), ← hnH.out]
        by_cases hk0 : n.kids = []
        · rw [if_pos hk0] at hst
          have d0 : ((n.kids.length : Int) == 0) = true := by rw [hk0]; rfl
          have c2 := x8H.out.at' (i := 2) rfl
          rw [hW3H.out.1, hW3H.out.2] at c2
          have hf := Lib.hid (hfin.out (i + 1) W3 (by rw [← hDH.out, hst]; omega) hb3.out)
          clear hst hk0 hm
          go_wp2
          rw [← hW3H.out.1]
          go_ret
          exact hf.out
        · rw [if_neg hk0] at hst
          have hlp : 0 < n.kids.length := List.length_pos_iff.2 hk0
          have d0 : ((n.kids.length : Int) == 0) = false := by simp; omega
          have c2 := x8H.out.at' (i := 2) rfl
          obtain ⟨b, o, hA3, hbl, hcell⟩ := CellsF.num (F := fun _ => False) (by obtain ⟨A', c', e1, h1⟩ := row_cellsF (F := fun _ => False) hownH.out.r3 (fun _ h => h.elim); cases e1; exact h1) hlp
          have hck := hcell W3 (Below.refl _ _)
          have hcx := wcH.out 0 hlp
          rw [show n.kids.getD 0 0 = n.kids[0] by simp [hlp]] at hst
          obtain ⟨z, hz⟩ : ∃ z, n.kids[0] = z := ⟨_, rfl⟩
          rw [hz] at hck hcx hst
          have hrel : Hid (D = bheight R t (40 - (i + 1)) z + (i + 1)) := Lib.hid (by rw [hst, show 40 - (i + 1) = m by omega]; omega)
          have hck : W3.cell? ⟨b, o, none⟩ = some (.int .u64 (z : Nat)) := hck
          subst hA3
          rw [hW3H.out.1, hW3H.out.2] at c2
          rw [hW3H.out.1] at hck
          clear hst hm hz hcell hk0
          go_wp2
          rw [← hW3H.out.1]
          go_roundw
          case rel => exact ⟨i + 1, z, by omega, hcx, rfl, by go_num, hrel, hb3⟩
          case measure => simp [intOf]; omega
    · rw [decide_eq_false he]
      have hf := Lib.hid (hfin.out i W3 (by
        rw [← hDH.out, hd.out]
        cases h9 : 40 - i with
        | zero => simp [bheight]
        | succ m => unfold bheight; rw [if_pos he]; omega) hb3.out)
      clear he
      go_wp2
      rw [← hW3H.out.1]
      go_ret
      exact hf.out
end
end Go.Proofs.YtjcpclcmnhpgpaaGreatDoor

/-
  The seat's own texts, part xo: BtWG.
-/
import Derived.Test.YtjcpclcmnhpgpaaGreatDoorFMxn

set_option linter.unusedVariables false
set_option linter.unusedSimpArgs false
namespace Go.Proofs.YtjcpclcmnhpgpaaGreatDoor
open Go.RowKit Go.Shelf
section
variable {W : World} {B : Nat} {v1 v2 v3 : Value} {l1 l2 l3 : List Nat}
theorem hsV_set (l : List Nat) (k x : Nat) : (hsV l).set k (.int .u64 (x : Nat)) = hsV (l.set k x) := by unfold hsV; rw [List.map_set]
theorem Own3.put1 {g c : Nat} (h : Own3 W B (.slice (some ⟨g, 0, none⟩) l1.length c) l1 v2 l2 v3 l3) (k x : Nat) :
    Own3 (W.setCell ⟨g, k, none⟩ (.int .u64 (x : Nat))) B (.slice (some ⟨g, 0, none⟩) l1.length c) (l1.set k x) v2 l2 v3 l3 := by
  have hk : ∀ b, b ≠ g → (W.setCell ⟨g, k, none⟩ (.int .u64 (x : Nat))).heap[b]? = W.heap[b]? := fun b hb => Below.heap_setCell W ⟨g, k, none⟩ _ b hb
  refine ⟨?_, row_keep h.r2 fun b hb => hk b (fun e => h.a12 g rfl (e ▸ hb)), row_keep h.r3 fun b hb => hk b (fun e => h.a13 g rfl (e ▸ hb)), h.a12, h.a13, h.a23⟩
  rw [List.length_set, ← hsV_set]
  exact (h.r1.stored k (.int .u64 (x : Nat))).1
theorem Own3.put2 {g c : Nat} (h : Own3 W B v1 l1 (.slice (some ⟨g, 0, none⟩) l2.length c) l2 v3 l3) (k x : Nat) :
    Own3 (W.setCell ⟨g, k, none⟩ (.int .u64 (x : Nat))) B v1 l1 (.slice (some ⟨g, 0, none⟩) l2.length c) (l2.set k x) v3 l3 := (h.flip12.put1 k x).flip12
theorem row_some {v : Value} {l : List Nat} (h : W.ownsRow B 31 1 v l.length (hsV l)) (hl : l ≠ []) : ∃ g c, v = .slice (some ⟨g, 0, none⟩) l.length c ∧ B ≤ g ∧ g < W.heap.size := by
  rcases h.2 with ⟨h1, h2⟩ | ⟨g, cap, cur, h1, h2, h3, h4⟩
  · exact absurd (List.eq_nil_of_length_eq_zero h2) hl
  · exact ⟨g, cap, h1, h2, (Array.getElem?_eq_some_iff.1 h3).1⟩
end
def SwapR (w : World) (s : Nat) (F : Nat → Prop) (H : List Nat) (P q most last G : Nat) (p : (Nat → Option (List Nat)) × Option (Nat × Nat)) (e : Ending) (w' : World) : Prop :=
  e = .returned (itV p.2) ∧ StoreIs w' s F p.1 H P q most last G ∧ Turn w F w' F
section
variable {w w' : World} {s : Nat} {F : Nat → Prop} {R : Nat → Option (List Nat)} {H : List Nat} {P q most last G : Nat}
set_option maxHeartbeats 8000000 in
set_option maxRecDepth 100000 in
theorem btSwap_at (hs : StoreIs w s F R H P q most last G) (hsh : Short R) {t : Nat} (ht : BN.Deg t) (x : Nat) (hx : x < 18446744073709551616) (key : ByteArray) (ak av : Nat) (hak : ak < 18446744073709551616) (hav : av < 18446744073709551616) :
    Calls Tryz.prog 40 #[.agg #[.pointer (some ⟨s, 0, none⟩), .int .i64 (t : Nat)], .int .u64 (x : Nat), .string key, .agg #[.int .u64 (ak : Nat), .int .u64 (av : Nat)]] w (SwapR w s F H P q most last G (bswap R t key ak av 40 x)) := by
  have hmo : Tryz.prog.follows .mixedOrders = true := by kernel_rfl
  obtain ⟨N0, h, hwr⟩ := hs.rd
  have hH := Lib.hid h
  have htH := Lib.hid ht
  have hsH := Lib.hid hs
  have hakH := Lib.hid (And.intro hak hav)
  obtain ⟨W0, hW0⟩ : ∃ W, W = ((w.alloc (Obj.cells #[.pointer (some ⟨s, 0, none⟩), .int .i64 (t : Nat)] 88)).alloc (Obj.cells #[.int .u64 (ak : Nat), .int .u64 (av : Nat)] 33)).alloc (Obj.cells #[.int .u64 0, .int .u64 0] 33) := ⟨_, rfl⟩
  have hb0 : Below w.heap.size w W0 := by rw [hW0]; exact (((Below.refl _ w).alloc (Nat.le_refl _) _).alloc (by simp) _).alloc (by simp; omega) _
  obtain ⟨b4, hb4⟩ : ∃ b, b = w.heap.size := ⟨_, rfl⟩
  obtain ⟨b7, hb7⟩ : ∃ b, b = w.heap.size + 1 := ⟨_, rfl⟩
  obtain ⟨b8, hb8⟩ : ∃ b, b = w.heap.size + 1 + 1 := ⟨_, rfl⟩
  have x4 : Box W0 b4 88 [.pointer (some ⟨s, 0, none⟩), .int .i64 (t : Nat)] := by rw [hW0, hb4]; exact ((Box.new w 88 [.pointer (some ⟨s, 0, none⟩), .int .i64 (t : Nat)]).alloc _).alloc _
  have x7 : Box W0 b7 33 [.int .u64 (ak : Nat), .int .u64 (av : Nat)] := by
    rw [hW0, hb7]
    have := Box.new (w.alloc (Obj.cells #[.pointer (some ⟨s, 0, none⟩), .int .i64 (t : Nat)] 88)) 33 [.int .u64 (ak : Nat), .int .u64 (av : Nat)]
    rw [show (w.alloc (Obj.cells #[.pointer (some ⟨s, 0, none⟩), .int .i64 (t : Nat)] 88)).heap.size = w.heap.size + 1 by simp] at this
    exact this.alloc _
  have x8 : Box W0 b8 33 [.int .u64 0, .int .u64 0] := by
    rw [hW0, hb8]
    have := Box.new ((w.alloc (Obj.cells #[.pointer (some ⟨s, 0, none⟩), .int .i64 (t : Nat)] 88)).alloc (Obj.cells #[.int .u64 (ak : Nat), .int .u64 (av : Nat)] 33)) 33 [.int .u64 0, .int .u64 0]
    rwa [show ((w.alloc (Obj.cells #[.pointer (some ⟨s, 0, none⟩), .int .i64 (t : Nat)] 88)).alloc (Obj.cells #[.int .u64 (ak : Nat), .int .u64 (av : Nat)] 33)).heap.size = w.heap.size + 1 + 1 by simp] at this
  have g4 : w.heap.size ≤ b4 := by omega
  have g7 : w.heap.size ≤ b7 := by omega
  have g8 : w.heap.size ≤ b8 := by omega
  have hW0H := Lib.hid (And.intro hW0 (And.intro hb4 (And.intro hb7 hb8)))
  have hb0H := Lib.hid hb0
  have x4H := Lib.hid x4
  have x7H := Lib.hid x7
  have x8H := Lib.hid x8
  have hnone : Hid (∀ W, bswap R t key ak av 40 x = (R, none) → Below w.heap.size w W → SwapR w s F H P q most last G (bswap R t key ak av 40 x) (.returned (.agg #[.int .u64 0, .int .u64 0])) W) := Lib.hid (fun W h1 h2 => by
    rw [h1]; exact ⟨rfl, hs.below h2, Turn.below h2⟩)
  obtain ⟨D, hD⟩ : ∃ D, D = bswap R t key ak av 40 x := ⟨_, rfl⟩
  have hDH := Lib.hid hD
  clear h ht hs hak hav hW0 hb4 hb7 hb8 x4 x7 x8 hb0 hD
  go_enter Tryz.func40, Tryz.ntmps40
  go_wp2
  rw [← hW0H.out.1, ← hW0H.out.2.2.2, ← hW0H.out.2.2.1, ← hW0H.out.2.1]
  go_loopw [1, 14] (fun hv iv wr => ∃ (i x' : Nat), i ≤ 40 ∧ x' < 18446744073709551616 ∧ hv = .int .u64 x' ∧ iv = .int .i64 i ∧ Hid (D = bswap R t key ak av (40 - i) x') ∧ Hid (Below W0.heap.size W0 wr)) (fun _ iv _ => 40 - (intOf iv).toNat)
  case atStart => exact ⟨0, x, by omega, hx, rfl, rfl, hDH, Lib.hid (Below.refl _ _)⟩
  case round =>
    obtain ⟨i, y, hi, hy, rfl, rfl, hd, hb⟩ := hrel
    have hbw := hb0H.out.trans (hb.out.mono hb0H.out.size)
    have hbwH := Lib.hid hbw
    have y4 := Lib.hid (x4H.out.below hb.out)
    have y7 := Lib.hid (x7H.out.below hb.out)
    have y8 := Lib.hid (x8H.out.below hb.out)
    have e40 := y4.out.at' (i := 0) rfl
    have e41 := y4.out.at' (i := 1) rfl
    by_cases hlt : i < 40
    · have hGt := Lib.hid (btGet_at (hH.out.below hbw) t htH.out y hy)
      obtain ⟨m, hm⟩ : ∃ m, 40 - i = m + 1 := ⟨39 - i, by omega⟩
      clear hbw
      go_wp2_with fail
      refine hGt.out.mono ?_
      rintro e w2 ⟨v1, v2, v3, rfl, hown, hb2⟩
      obtain ⟨A1, q1, rfl⟩ := ownN_form hown.r1
      obtain ⟨A2, q2, rfl⟩ := ownN_form hown.r2
      obtain ⟨A3, q3, rfl⟩ := ownN_form hown.r3
      obtain ⟨n, hn⟩ : ∃ n, n = bnG R t y := ⟨_, rfl⟩
      have hd2 : D = bswap R t key ak av (m + 1) y := by rw [← hm]; exact hd.out
      rw [← hn] at hown
      rw [← hn]
      obtain ⟨W3, hW3⟩ : ∃ W, W = w2.alloc (Obj.cells #[.slice A1 n.keys.length q1, .slice A2 n.vals.length q2, .slice A3 n.kids.length q3, .int .u64 (n.size : Nat)] 66) := ⟨_, rfl⟩
      obtain ⟨b9, hb9⟩ : ∃ b, b = w2.heap.size := ⟨_, rfl⟩
      have hb23 : Below w2.heap.size w2 W3 := by rw [hW3]; exact (Below.refl _ _).alloc (Nat.le_refl _) _
      have x9 : Box W3 b9 66 [.slice A1 n.keys.length q1, .slice A2 n.vals.length q2, .slice A3 n.kids.length q3, .int .u64 (n.size : Nat)] := by rw [hW3, hb9]; exact Box.new w2 66 [.slice A1 n.keys.length q1, .slice A2 n.vals.length q2, .slice A3 n.kids.length q3, .int .u64 (n.size : Nat)]
      have hbr3 : Below wr.heap.size wr W3 := hb2.trans (hb23.mono hb2.size)
      have z4 := Lib.hid (y4.out.below hbr3)
      have z7 := Lib.hid (y7.out.below hbr3)
      have z8 := Lib.hid (y8.out.below hbr3)
      have hbw3 := Lib.hid (hbwH.out.trans (hbr3.mono hbwH.out.size))
      have hsz0 := Lib.hid hb.out.size
      have hb03 := Lib.hid (hb.out.trans (hbr3.mono hb.out.size))
      have hlows := Lib.hid (show b4 < wr.heap.size ∧ b7 < wr.heap.size ∧ b8 < wr.heap.size ∧ wr.heap.size ≤ b9 from ⟨y4.out.lt, y7.out.lt, y8.out.lt, by have := hb2.size; omega⟩)
      have hapart := Lib.hid (show (∀ k, (Value.slice A1 n.keys.length q1).ownBlock = some k → k < b9) ∧ ∀ k, (Value.slice A2 n.vals.length q2).ownBlock = some k → k < b9 from ⟨fun k hk => by rw [hb9]; exact rows_lt hown.r1 k hk, fun k hk => by rw [hb9]; exact rows_lt hown.r2 k hk⟩)
      have hW3H := Lib.hid (And.intro hW3 hb9)
      have hnH := Lib.hid hn
      have x9H := Lib.hid x9
      have hownH := Lib.hid (hown.below hb23)
      have hd2H := Lib.hid hd2
      have hmH := Lib.hid hm
      clear e40 e41 hGt hb2 hown hn hW3 hb9 hb23 hbr3 x9 hd2 hd hb y4 y7 y8 hbwH hm
      by_cases he : bnE R t y = 0
      · rw [decide_eq_true he]
        have hw := bnG_words hH.out htH.out he
        rw [← hnH.out] at hw
        obtain ⟨hfit, wk, wv, wc, hsz⟩ := hw
        have t2 := htH.out.2
        obtain ⟨g1, g2, g3'⟩ := hfit
        have l1 : n.keys.length ≤ 31 := by omega
        have l3 : n.kids.length ≤ 32 := by rcases g3' with h9 | h9
                                           · rw [h9]; simp
                                           · omega
        have hV : BNV W3 (fun _ => False) (.agg #[.slice A1 n.keys.length q1, .slice A2 n.vals.length q2, .slice A3 n.kids.length q3, .int .u64 (n.size : Nat)]) n := hownH.out.bnv (F := fun _ => False) (fun _ h => h.elim) n.size (by omega) (by omega) (by omega)
        have hPl := btPlace_at (hH.out.below hbw3.out) hsh hV t wk key
        obtain ⟨k, hk⟩ : ∃ k, k = plK R n.keys key := ⟨_, rfl⟩
        obtain ⟨hb, hhb⟩ : ∃ hb, hb = plH R n.keys key := ⟨_, rfl⟩
        have hkl : k ≤ n.keys.length := by rw [hk]; exact (bsF_le _ _ 0 _ (Nat.zero_le _)).2
        have hhl : hb = true → k < n.keys.length := by rw [hk, hhb]; unfold plH; simp; intro h1 _; exact h1
        rw [← hk, ← hhb] at hPl
        have hst : D = bswap.swGo R t ak av n y k hb (bswap R t key ak av m) := by
          rw [hd2H.out]
          exact Bt.swap_node hnH.out.symm he hk.symm hhb.symm
        have hstH := Lib.hid hst
        have hPlH := Lib.hid hPl
        have hkids : Hid (n.kids = [] ∨ n.kids.length = n.keys.length + 1) := Lib.hid (g3'.imp id And.left)
        have hhlH := Lib.hid hhl
        have hvl := Lib.hid g2
        have wkH := Lib.hid (And.intro wk (And.intro wv (And.intro wc hsz)))
        have hl13 := Lib.hid (And.intro l1 l3)
        have e40 := z4.out.at' (i := 0) rfl
        have e41 := z4.out.at' (i := 1) rfl
        rw [hW3H.out.1] at e40 e41
        clear hV hPl hk hhb hst hhl g1 g2 g3' wk wv wc hsz he hd2H l1 l3
        go_wp2_with fail
        rw [← hW3H.out.1, ← hW3H.out.2]
        refine hPlH.out.mono ?_
        rintro e w4 ⟨rfl, hb4⟩
        have u4 := Lib.hid (z4.out.below hb4)
        have u7 := Lib.hid (z7.out.below hb4)
        have u8 := Lib.hid (z8.out.below hb4)
        have u9 := Lib.hid (x9H.out.below hb4)
        have uo := Lib.hid (hownH.out.below hb4)
        have hbw4 := Lib.hid (hbw3.out.trans (hb4.mono hbw3.out.size))
        have hb04 := Lib.hid (hb03.out.trans (hb4.mono hb03.out.size))
        have hst2 := hstH.out
        unfold bswap.swGo at hst2
        have f0 := u9.out.at' (i := 0) rfl
        have f1 := u9.out.at' (i := 1) rfl
        have f2 := u9.out.at' (i := 2) rfl
        have f3 := u9.out.at' (i := 3) rfl
        clear hb4 z4 z7 z8 x9H hownH hbw3 hb03 hPlH hW3H e40 e41 hstH
        cases hb with
        | true =>
          simp only [cond_true] at hst2
          have hkk := hhlH.out rfl
          have hvk : k < n.vals.length := by rw [hvl.out]; exact hkk
          obtain ⟨gk, ck, e1, hBk, hgk⟩ := row_some uo.out.r1 (fun e => by rw [e] at hkk; simp at hkk)
          obtain ⟨gv, cv, e2, hBv, hgv⟩ := row_some uo.out.r2 (fun e => by rw [e] at hvk; simp at hvk)
          cases e1
          cases e2
          have n9k := hapart.out.1 gk rfl
          have n9v := hapart.out.2 gv rfl
          have hc7 : w4.cell? ⟨gk, k, none⟩ = some (.int .u64 (n.keys[k] : Nat)) := (uo.out.r1.cellAt k (by omega)).trans (hsV_get hkk)
          have hc8 : w4.cell? ⟨gv, k, none⟩ = some (.int .u64 (n.vals[k] : Nat)) := (uo.out.r2.cellAt k (by omega)).trans (hsV_get hvk)
          have hz7 := uo.out.r1.frozenAt k
          have hz8 := uo.out.r2.frozenAt k
          rw [show n.keys.getD k 0 = n.keys[k] by simp [hkk], show n.vals.getD k 0 = n.vals[k] by simp [hvk]] at hst2
          obtain ⟨ya, hya⟩ : ∃ y, n.keys[k] = y := ⟨_, rfl⟩
          obtain ⟨yv, hyv⟩ : ∃ y, n.vals[k] = y := ⟨_, rfl⟩
          rw [hya] at hc7 hst2
          rw [hyv] at hc8 hst2
          have x1 := fun X : Exw (fun _ => False) w4 => X.cell f0 (fun h => h)
          have x2 := fun X : Exw (fun _ => False) w4 => X.cell f1 (fun h => h)
          have x3 := fun X : Exw (fun _ => False) w4 => X.cell hc7 (fun h => h)
          have x4 := fun X : Exw (fun _ => False) w4 => X.cell hc8 (fun h => h)
          go_wp2
          refine wp_region_steps (fun w' => ∃ X : Exw (fun _ => False) w4, w' = X.W) [.r 0, .r 1, .r 2, .r 3, .r 4, .r 5, .r 6, .r 7, .r 8, .r 9, .r 10, .a 11, .a 12] hmo (by kernel_rfl) rfl (by kernel_rfl) (exw_start _ _) (fun _ _ d _ _ h => by cases d <;> exact h) ?_
          refine wpSteps_r _ _ rfl rfl (by rintro _ ⟨X, rfl⟩; go_simp; exact rfl) ?_
          go_simp
          refine wpSteps_r _ _ rfl rfl (by rintro _ ⟨X, rfl⟩; go_simp; exact rfl) ?_
          go_simp
          refine wpSteps_r _ _ rfl rfl (by rintro _ ⟨X, rfl⟩; go_simp; exact rfl) ?_
          go_simp
          refine wpSteps_r _ _ rfl rfl (by rintro _ ⟨X, rfl⟩; go_simp; exact rfl) ?_
          go_simp
          refine wpSteps_r _ _ rfl rfl (by rintro _ ⟨X, rfl⟩; go_simp; exact rfl) ?_
          go_simp
          refine wpSteps_r _ _ rfl rfl (by rintro _ ⟨X, rfl⟩; go_simp; exact rfl) ?_
          go_simp
          refine wpSteps_r _ _ rfl rfl (by rintro _ ⟨X, rfl⟩; go_simp; exact rfl) ?_
          go_simp
          refine wpSteps_r _ _ rfl rfl (by rintro _ ⟨X, rfl⟩; go_simp; exact rfl) ?_
          go_simp
          refine wpSteps_r _ _ rfl rfl (by rintro _ ⟨X, rfl⟩; go_simp; exact rfl) ?_
          go_simp
          refine wpSteps_r _ _ rfl rfl (by rintro _ ⟨X, rfl⟩; go_simp; exact rfl) ?_
          go_simp
          refine wpSteps_r _ _ rfl rfl (by rintro _ ⟨X, rfl⟩; go_simp; exact rfl) ?_
          go_simp
          clear x1 x2 x3 x4
          refine wpSteps_a _ rfl (fun K1 hK1 => ?_)
          go_wp2
          refine hK1 _ _ (exw_below (((below_drawn w4)).alloc (Nat.le_refl _) _)) ?_
          clear hK1 K1
          refine wpSteps_a _ rfl (fun K1 hK1 => ?_)
          go_wp2
          have hb45 : Below w4.heap.size w4 (w4.alloc (Obj.cells #[.int .u64 (ya : Nat), .int .u64 (yv : Nat)] 33)).drew := (((Below.refl _ w4)).alloc (Nat.le_refl _) _).drew
          refine hK1 _ _ (exw_below hb45) (wpSteps_nil ?_)
          clear hK1 K1
          obtain ⟨b13, hb13⟩ : ∃ b, b = w4.heap.size := ⟨_, rfl⟩
          have x13 : Box (w4.alloc (Obj.cells #[.int .u64 (ya : Nat), .int .u64 (yv : Nat)] 33)).drew b13 33 [.int .u64 (ya : Nat), .int .u64 (yv : Nat)] := by rw [hb13]; exact box_drew (Box.new w4 33 [.int .u64 (ya : Nat), .int .u64 (yv : Nat)])
          rw [← hb13]
          have hlt13 := Lib.hid hb13
          obtain ⟨W5, hW5⟩ : ∃ W, W = (w4.alloc (Obj.cells #[.int .u64 (ya : Nat), .int .u64 (yv : Nat)] 33)).drew := ⟨_, rfl⟩
          rw [← hW5] at hb45 x13 ⊢
          have p4 := Lib.hid (u4.out.below hb45)
          have p7 := Lib.hid (u7.out.below hb45)
          have p8 := Lib.hid (u8.out.below hb45)
          have p9 := Lib.hid (u9.out.below hb45)
          have po := Lib.hid (uo.out.below hb45)
          have p13 := Lib.hid x13
          have hbw5 := Lib.hid (hbw4.out.trans (hb45.mono hbw4.out.size))
          have hc7' := hb45.cell (p := ⟨gk, k, none⟩) hgk ▸ hc7
          have hc8' := hb45.cell (p := ⟨gv, k, none⟩) hgv ▸ hc8
          have hz7' := po.out.r1.frozenAt k
          have hz8' := po.out.r2.frozenAt k
          have nkv : gk ≠ gv := fun e => po.out.a12 gk rfl (by rw [e]; rfl)
          have hge := hlows.out
          have hwk : w.heap.size ≤ gk := Nat.le_trans (Nat.le_trans hb0H.out.size hsz0.out) hBk
          have hwv : w.heap.size ≤ gv := Nat.le_trans (Nat.le_trans hb0H.out.size hsz0.out) hBv
          have n7 : ¬ (b7 = gk ∨ b7 = gv) := by omega
          have n9 : ¬ (b9 = gk ∨ b9 = gv) := by omega
          clear hz7 hz8 hc7 hc8 f0 f1 f2 f3 x13 hW5 hb45 hb13 u4 u7 u8 u9 uo hbw4
          have f0 := p9.out.at' (i := 0) rfl
          have f1 := p9.out.at' (i := 1) rfl
          have x1 := fun X : Exw (fun b => b = gk ∨ b = gv) W5 => X.cell f0 n9
          have x2 := fun X : Exw (fun b => b = gk ∨ b = gv) W5 => X.cell f1 n9
          have x3 := fun X : Exw (fun b => b = gk ∨ b = gv) W5 => X.cell (p7.out.at' (i := 0) rfl) n7
          have x4 := fun X : Exw (fun b => b = gk ∨ b = gv) W5 => X.cell (p7.out.at' (i := 1) rfl) n7
          go_wp2
          refine wp_region_steps (fun w' => ∃ X : Exw (fun b => b = gk ∨ b = gv) W5, w' = X.W) [.r 0, .r 1, .r 2, .r 3, .r 4, .r 5, .r 6, .r 7, .r 8, .r 9, .r 10, .a 11, .r 12, .a 13] hmo (by kernel_rfl) rfl (by kernel_rfl) (exw_start _ _) (fun _ _ d _ _ h => by cases d <;> exact h) ?_
          refine wpSteps_r _ _ rfl rfl (by rintro _ ⟨X, rfl⟩; go_simp; exact rfl) ?_
          go_simp
          refine wpSteps_r _ _ rfl rfl (by rintro _ ⟨X, rfl⟩; go_simp; exact rfl) ?_
          go_simp
          refine wpSteps_r _ _ rfl rfl (by rintro _ ⟨X, rfl⟩; go_simp; exact rfl) ?_
          go_simp
          refine wpSteps_r _ _ rfl rfl (by rintro _ ⟨X, rfl⟩; go_simp; exact rfl) ?_
          go_simp
          refine wpSteps_r _ _ rfl rfl (by rintro _ ⟨X, rfl⟩; go_simp; exact rfl) ?_
          go_simp
          refine wpSteps_r _ _ rfl rfl (by rintro _ ⟨X, rfl⟩; go_simp; exact rfl) ?_
          go_simp
          refine wpSteps_r _ _ rfl rfl (by rintro _ ⟨X, rfl⟩; go_simp; exact rfl) ?_
          go_simp
          refine wpSteps_r _ _ rfl rfl (by rintro _ ⟨X, rfl⟩; go_simp; exact rfl) ?_
          go_simp
          refine wpSteps_r _ _ rfl rfl (by rintro _ ⟨X, rfl⟩; go_simp; exact rfl) ?_
          go_simp
          refine wpSteps_r _ _ rfl rfl (by rintro _ ⟨X, rfl⟩; go_simp; exact rfl) ?_
          go_simp
          refine wpSteps_r _ _ rfl rfl (by rintro _ ⟨X, rfl⟩; go_simp; exact rfl) ?_
          go_simp
          clear x1 x2 x3 x4
          refine wpSteps_a _ rfl (fun K1 hK1 => ?_)
          go_wp2
          refine hK1 _ _ (exw_then (exw_set (B := fun b => b = gk ∨ b = gv) (p := ⟨gk, k, none⟩) (exw_below (Below.refl _ _)) (.inl rfl) _) (below_drawn _)) ?_
          clear hK1 K1
          refine wpSteps_r _ _ rfl rfl (by rintro _ ⟨X, rfl⟩; go_simp; exact rfl) ?_
          go_simp
          refine wpSteps_a _ rfl (fun K1 hK1 => ?_)
          go_wp2
          have po2 : Own3 ((W5.setCell ⟨gk, k, none⟩ (.int .u64 (ak : Nat))).setCell ⟨gv, k, none⟩ (.int .u64 (av : Nat))).drew wr.heap.size _ (n.keys.set k ak) _ (n.vals.set k av) _ n.kids := ((po.out.put1 k ak).put2 k av).below (below_drawn _)
          have hbw6 : Below w.heap.size w ((W5.setCell ⟨gk, k, none⟩ (.int .u64 (ak : Nat))).setCell ⟨gv, k, none⟩ (.int .u64 (av : Nat))).drew := ((hbw5.out.setCell (p := ⟨gk, k, none⟩) hwk _).setCell (p := ⟨gv, k, none⟩) hwv _).drew
          have two : ∀ {b : Nat} {T : TypeId} {vs : List Value}, Box W5 b T vs → b ≠ gk → b ≠ gv → Box ((W5.setCell ⟨gk, k, none⟩ (.int .u64 (ak : Nat))).setCell ⟨gv, k, none⟩ (.int .u64 (av : Nat))).drew b T vs := fun h h1 h2 => box_drew ((h.other (p := ⟨gk, k, none⟩) h1 _).other (p := ⟨gv, k, none⟩) h2 _)
          have q4 := two p4.out (by omega) (by omega)
          have q8 := two p8.out (by omega) (by omega)
          have q9 := two p9.out (by omega) (by omega)
          have q13 := two p13.out (by have := hlt13.out; omega) (by have := hlt13.out; omega)
          have hex6 : ∃ X : Exw (fun b => b = gk ∨ b = gv) W5, ((W5.setCell ⟨gk, k, none⟩ (.int .u64 (ak : Nat))).setCell ⟨gv, k, none⟩ (.int .u64 (av : Nat))).drew = X.W := exw_then (exw_set (B := fun b => b = gk ∨ b = gv) (p := ⟨gv, k, none⟩) (exw_set (B := fun b => b = gk ∨ b = gv) (p := ⟨gk, k, none⟩) (exw_below (Below.refl _ _)) (.inl rfl) _) (.inr rfl) _) (below_drawn _)
          clear two
          generalize hW6 : ((W5.setCell ⟨gk, k, none⟩ (.int .u64 (ak : Nat))).setCell ⟨gv, k, none⟩ (.int .u64 (av : Nat))).drew = W6 at *
          refine hK1 _ _ hex6 (wpSteps_nil ?_)
          clear hK1 K1 hex6 hW6
          have hS6 := Lib.hid (hsH.out.below hbw6)
          have hT6 := Lib.hid (Turn.below (F := F) hbw6)
          obtain ⟨wk, wv, wc, hsz⟩ := wkH.out
          have hok : (n.setKV k ak av).Ok := ⟨fun z hz => by
            rcases List.mem_or_eq_of_mem_set hz with h9 | h9
            · obtain ⟨j, hj, rfl⟩ := List.getElem_of_mem h9; exact wk j hj
            · rw [h9]; exact hakH.out.1, fun z hz => by
            rcases List.mem_or_eq_of_mem_set hz with h9 | h9
            · obtain ⟨j, hj, rfl⟩ := List.getElem_of_mem h9; exact wv j hj
            · rw [h9]; exact hakH.out.2, fun z hz => by obtain ⟨j, hj, rfl⟩ := List.getElem_of_mem hz; exact wc j hj, hsz⟩
          have hl1 := hl13.out.1
          have hl3 := hl13.out.2
          have hl2 := hvl.out
          have hF0 : ∀ b, F b → b < w.heap.size := fun b hb => hsH.out.lt hb
          have hV6 := po2.bnv (F := F) (fun b hb => Nat.lt_of_lt_of_le (hF0 b hb) (Nat.le_trans hb0H.out.size hsz0.out)) n.size (by simp; omega) (by simp; omega) (by omega)
          rw [show (BN.mk (n.keys.set k ak) (n.vals.set k av) n.kids n.size) = n.setKV k ak av from rfl] at hV6
          have hPut := Lib.hid (bnPut_at hS6.out t htH.out y hy hV6 hok)
          have f0 := q9.at' (i := 0) rfl
          have f1 := q9.at' (i := 1) rfl
          have f2 := q9.at' (i := 2) rfl
          have f3 := q9.at' (i := 3) rfl
          have e40 := q4.at' (i := 0) rfl
          have e41 := q4.at' (i := 1) rfl
          have n8F : ¬ F b8 := fun h9 => by have := hF0 _ h9; omega
          have n13F : ¬ F b13 := fun h9 => by have := hF0 _ h9; have := hlt13.out; have := hb0H.out.size; have := hsz0.out; omega
          have q8H := Lib.hid q8
          have q13H := Lib.hid q13
          clear hok hl1 hl2 hl3 hV6 wk wv wc hsz po2 hbw6 q8 q13 q4 q9 hF0
          go_wp2_with fail
          refine hPut.out.mono ?_
          unfold BPut
          rintro e w7 ⟨rfl, hS7, hT7⟩
          have r8 := Lib.hid (q8H.out.turn hT7 n8F)
          have r13 := q13H.out.turn hT7 n13F
          have i0 := r13.at' (i := 0) rfl
          have i1 := r13.at' (i := 1) rfl
          have k0 := r8.out.free 0
          have k1 := r8.out.free 1
          have j0 := r8.out.at' (i := 0) rfl
          have j1 := r8.out.at' (i := 1) rfl
          have hS7H := Lib.hid hS7
          have hT7H := Lib.hid hT7
          have hq := Lib.hid ((r8.out.set 0 (.int .u64 (ya : Nat))).set 1 (.int .u64 (yv : Nat)))
          clear hS7 hT7 r13
          go_wp2
          have r0 := hq.out.at' (i := 0) rfl
          have r1 := hq.out.at' (i := 1) rfl
          refine bodyPost_ret (v := .agg #[.int .u64 (ya : Nat), .int .u64 (yv : Nat)]) (by simp [results, Tryz.f40, go_sem, r0, r1]) rfl ?_
          rw [← hDH.out, hst2]
          have hnn : s < b8 ∧ 1 < b8 := by
            obtain ⟨_, _, _, _, _, _, _, _, _, _, _, _, _, _, _, _, _, m2, m3, m4⟩ := hH.out
            omega
          refine ⟨rfl, hS7H.out.grown (grown_trans (grown_set w7 b8 0 _) (grown_set _ b8 1 _)) (fun z hz => ?_), ?_⟩
          · obtain rfl : b8 = z := Option.some.inj hz
            refine ⟨hnn.1, hnn.2, n8F, fun p9 hc => ?_⟩
            rw [r8.out.at' (i := 0) rfl] at hc
            cases hc
          · exact (hT6.out.trans hT7H.out).minus ((Turn.set_fb w7 F b8 0 _).trans (Turn.set_fb _ F b8 1 _)) g8
        | false =>
          simp only [cond_false] at hst2
          by_cases hk0 : n.kids = []
          · have hkz : n.kids.length = 0 := by rw [hk0]; rfl
            rw [if_pos hk0] at hst2
            have hdd := hDH.out.symm.trans hst2
            clear hst2
            have v8 := u8.out
            have k0 := v8.free 0
            have k1 := v8.free 1
            have j0 := v8.at' (i := 0) rfl
            have j1 := v8.at' (i := 1) rfl
            have hf := Lib.hid (hnone.out _ hdd ((hbw4.out.setCell (p := ⟨b8, 0, none⟩) g8 (.int .u64 0)).setCell (p := ⟨b8, 1, none⟩) g8 (.int .u64 0)))
            have hq := Lib.hid ((v8.set 0 (.int .u64 0)).set 1 (.int .u64 0))
            clear v8
            go_wp2
            have r0 := hq.out.at' (i := 0) rfl
            have r1 := hq.out.at' (i := 1) rfl
            refine bodyPost_ret (v := .agg #[.int .u64 0, .int .u64 0]) (by simp [results, Tryz.f40, go_sem, r0, r1]) rfl hf.out
          · have hkz : 0 < n.kids.length := List.length_pos_iff.2 hk0
            rw [if_neg hk0] at hst2
            have hkj : k < n.kids.length := by rcases hkids.out with h9 | h9
                                               · exact absurd h9 hk0
                                               · omega
            obtain ⟨B3, p3, e3, hC3⟩ := row_cellsF (F := fun _ => False) uo.out.r3 (fun _ h => h.elim)
            cases e3
            obtain ⟨b5, o5, rfl, hbl5, hcell⟩ := hC3.num hkj
            have hcq := hcell w4 (Below.refl _ _)
            have hky := wkH.out.2.2.1 k hkj
            rw [show n.kids.getD k 0 = n.kids[k] by simp [hkj]] at hst2
            obtain ⟨yk, hyk⟩ : ∃ yk, n.kids[k] = yk := ⟨_, rfl⟩
            rw [hyk] at hcq hky hst2
            have hrel : Hid (D = bswap R t key ak av (40 - (i + 1)) yk) := Lib.hid (by rw [show 40 - (i + 1) = m by have := hmH.out; omega]; exact hst2)
            clear hyk hcell hst2 hk0 hC3
            go_wp2
            go_roundw
            case rel => exact ⟨i + 1, yk, by omega, hky, rfl, by go_num, hrel, hb04⟩
            case measure => simp [intOf]; omega
      · rw [decide_eq_false he]
        have heH := Lib.hid he
        clear he
        have hdd : bswap R t key ak av 40 x = (R, none) := by rw [← hDH.out, hd2H.out]; unfold bswap; exact if_pos heH.out
        have v8 := z8.out
        have k0 := v8.free 0
        have k1 := v8.free 1
        have j0 := v8.at' (i := 0) rfl
        have j1 := v8.at' (i := 1) rfl
        have hf := Lib.hid (hnone.out _ hdd ((hbw3.out.setCell (p := ⟨b8, 0, none⟩) g8 (.int .u64 0)).setCell (p := ⟨b8, 1, none⟩) g8 (.int .u64 0)))
        have hq := Lib.hid ((v8.set 0 (.int .u64 0)).set 1 (.int .u64 0))
        clear v8 hdd
        rw [hW3H.out.1] at k0 k1 j0 j1
        go_wp2
        rw [← hW3H.out.1]
        have r0 := hq.out.at' (i := 0) rfl
        have r1 := hq.out.at' (i := 1) rfl
        refine bodyPost_ret (v := .agg #[.int .u64 0, .int .u64 0]) (by simp [results, Tryz.f40, go_sem, r0, r1]) rfl hf.out
    · obtain rfl : i = 40 := by omega
      have hdd : bswap R t key ak av 40 x = (R, none) := by rw [← hDH.out, hd.out]; rfl
      have v8 := y8.out
      have k0 := v8.free 0
      have k1 := v8.free 1
      have j0 := v8.at' (i := 0) rfl
      have j1 := v8.at' (i := 1) rfl
      have hf := Lib.hid (hnone.out _ hdd ((hbw.setCell (p := ⟨b8, 0, none⟩) g8 (.int .u64 0)).setCell (p := ⟨b8, 1, none⟩) g8 (.int .u64 0)))
      have hq := Lib.hid ((v8.set 0 (.int .u64 0)).set 1 (.int .u64 0))
      clear v8
      go_wp2
      have r0 := hq.out.at' (i := 0) rfl
      have r1 := hq.out.at' (i := 1) rfl
      refine bodyPost_ret (v := .agg #[.int .u64 0, .int .u64 0]) (by simp [results, Tryz.f40, go_sem, r0, r1]) rfl hf.out
end
end Go.Proofs.YtjcpclcmnhpgpaaGreatDoor

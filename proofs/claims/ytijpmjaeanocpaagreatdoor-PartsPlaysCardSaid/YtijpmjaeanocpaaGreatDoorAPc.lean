/-
  The seat's own texts, shared part c: AvW4, AvW5, AvW6, AvD, RbW1, RbW2, RbW3, RbW4.
-/
import Derived.Test.YtijpmjaeanocpaaGreatDoorAPb
import Derived.Deep.DeepMust

set_option linter.unusedVariables false
set_option linter.unusedSimpArgs false
namespace Go.Proofs.YtijpmjaeanocpaaGreatDoor
open Go.RowKit Go.Shelf
section
variable {s : Nat} {F : Nat → Prop} {H : List Nat} {P q most last G : Nat}
set_option maxHeartbeats 8000000 in
set_option maxRecDepth 100000 in
theorem avJoin_at (m : Nd) (hokm : m.Ok) (xm : Nat) (hxm : xm < 18446744073709551616) : ∀ (f : Nat) (w : World) (R : Nat → Option (List Nat)) (l r : Nat), f ≤ 100 → l < 18446744073709551616 → r < 18446744073709551616 → StoreIs w s F R H P q most last G →
    Calls Tryz.prog 209 #[.pointer (some ⟨s, 0, none⟩), .int .u64 (l : Nat), .int .u64 (r : Nat), treeV m xm, .int .i64 ((100 - f : Nat) : Int)] w fun e w' => e = .returned (.int .u64 ((avJoin m xm f R l r).2 : Nat)) ∧ (avJoin m xm f R l r).2 < 18446744073709551616 ∧ StoreIs w' s F (avJoin m xm f R l r).1 H P q most last G ∧ Turn w F w' F
  | 0, w, R, l, r, hf, hl, hr, h => by
    have hmo : Tryz.prog.follows .mixedOrders = true := by kernel_rfl
    obtain ⟨n, hrd, _⟩ := h.rd
    have hGt := Lib.hid (fun W (hb : Below w.heap.size w W) y (hy : y < 18446744073709551616) => by have := avGet_at (hrd.below hb) y hy; unfold treeV at this; exact this)
    have hHt := Lib.hid (fun W (hb : Below w.heap.size w W) y (hy : y < 18446744073709551616) => avHeight_at (hrd.below hb) y hy)
    have hokG := Lib.hid (fun y => hrd.nodeG y)
    have hHs := Lib.hid h
    have hFwH := Lib.hid (fun b (hf : F b) => h.lt hf)
    obtain ⟨W0, hW0⟩ : ∃ W, W = w.alloc (Obj.cells #[.int .u64 (m.key : Nat), .int .u64 (m.val : Nat), .int .u64 (m.left : Nat), .int .u64 (m.right : Nat), .int .u64 (m.mark : Nat), .int .u64 (m.size : Nat), .int .u64 (xm : Nat)] 296) := ⟨_, rfl⟩
    have hX0 : Hid (Box W0 w.heap.size 296 [.int .u64 (m.key : Nat), .int .u64 (m.val : Nat), .int .u64 (m.left : Nat), .int .u64 (m.right : Nat), .int .u64 (m.mark : Nat), .int .u64 (m.size : Nat), .int .u64 (xm : Nat)]) := Lib.hid (by rw [hW0]; exact Box.new w 296 [.int .u64 (m.key : Nat), .int .u64 (m.val : Nat), .int .u64 (m.left : Nat), .int .u64 (m.right : Nat), .int .u64 (m.mark : Nat), .int .u64 (m.size : Nat), .int .u64 (xm : Nat)])
    have hB0 : Hid (Below w.heap.size w W0) := Lib.hid (by rw [hW0]; exact (Below.refl _ w).alloc (Nat.le_refl _) _)
    have hFb0 : ¬ F w.heap.size := fun hf => by have := hFwH.out _ hf; omega
    have hW0H := Lib.hid hW0
    clear h hrd hW0
    have hv : avJoin m xm 0 R l r = (withR R m xm l r, xm) := rfl
    unfold treeV
    go_enter Tryz.func209, Tryz.ntmps209
    go_wp2_with fail
    rw [← hW0H.out]
    refine (hHt.out _ hB0.out l hl).mono ?_
    rintro e w1 ⟨rfl, hb1⟩
    have hb1H := Lib.hid (hB0.out.trans (hb1.mono hB0.out.size))
    have hX0b := Lib.hid (hX0.out.below hb1)
    clear hb1
    go_wp2_with fail
    refine (hHt.out _ hb1H.out r hr).mono ?_
    rintro e w2 ⟨rfl, hb2'⟩
    have hb2 := Lib.hid (hb1H.out.trans (hb2'.mono hb1H.out.size))
    have hX0' := Lib.hid (hX0b.out.below hb2')
    clear hb2' hb1H hX0b hX0 hB0 hW0H
    have hwt := with_at (hHs.out.below hb2.out) m hokm xm l r hxm hl hr
    unfold treeV at hwt
    have hwtH := Lib.hid hwt
    clear hwt
    have c0 := hX0'.out.at' (i := 0) rfl
    have c1 := hX0'.out.at' (i := 1) rfl
    have c2 := hX0'.out.at' (i := 2) rfl
    have c3 := hX0'.out.at' (i := 3) rfl
    have c4 := hX0'.out.at' (i := 4) rfl
    have c5 := hX0'.out.at' (i := 5) rfl
    have c6 := hX0'.out.at' (i := 6) rfl
    have hvH := Lib.hid hv
    clear hv
    go_wp2_with fail
    refine hwtH.out.mono ?_
    rintro e w4 ⟨rfl, hS4, hT4⟩
    have hS4H := Lib.hid hS4
    have hT4H := Lib.hid ((Turn.below (F := F) hb2.out).trans hT4)
    clear hS4 hT4 hwtH c0 c1 c2 c3 c4 c5 c6
    go_wp2
    go_ret
    rw [hvH.out]
    exact ⟨rfl, hxm, hS4H.out, hT4H.out⟩
  | f + 1, w, R, l, r, hf, hl, hr, h => by
    have ih := avJoin_at m hokm xm hxm f
    have hmo : Tryz.prog.follows .mixedOrders = true := by kernel_rfl
    obtain ⟨n, hrd, _⟩ := h.rd
    have hGt := Lib.hid (fun W (hb : Below w.heap.size w W) y (hy : y < 18446744073709551616) => by have := avGet_at (hrd.below hb) y hy; unfold treeV at this; exact this)
    have hHt := Lib.hid (fun W (hb : Below w.heap.size w W) y (hy : y < 18446744073709551616) => avHeight_at (hrd.below hb) y hy)
    have hokG := Lib.hid (fun y => hrd.nodeG y)
    have hHs := Lib.hid h
    have hFwH := Lib.hid (fun b (hf : F b) => h.lt hf)
    obtain ⟨W0, hW0⟩ : ∃ W, W = w.alloc (Obj.cells #[.int .u64 (m.key : Nat), .int .u64 (m.val : Nat), .int .u64 (m.left : Nat), .int .u64 (m.right : Nat), .int .u64 (m.mark : Nat), .int .u64 (m.size : Nat), .int .u64 (xm : Nat)] 296) := ⟨_, rfl⟩
    have hX0 : Hid (Box W0 w.heap.size 296 [.int .u64 (m.key : Nat), .int .u64 (m.val : Nat), .int .u64 (m.left : Nat), .int .u64 (m.right : Nat), .int .u64 (m.mark : Nat), .int .u64 (m.size : Nat), .int .u64 (xm : Nat)]) := Lib.hid (by rw [hW0]; exact Box.new w 296 [.int .u64 (m.key : Nat), .int .u64 (m.val : Nat), .int .u64 (m.left : Nat), .int .u64 (m.right : Nat), .int .u64 (m.mark : Nat), .int .u64 (m.size : Nat), .int .u64 (xm : Nat)])
    have hB0 : Hid (Below w.heap.size w W0) := Lib.hid (by rw [hW0]; exact (Below.refl _ w).alloc (Nat.le_refl _) _)
    have hFb0 : ¬ F w.heap.size := fun hf => by have := hFwH.out _ hf; omega
    have hW0H := Lib.hid hW0
    clear h hrd hW0
    obtain ⟨d, hd⟩ : ∃ d, 100 - (f + 1) = d := ⟨_, rfl⟩
    have hdn : Hid (((100 - f : Nat) : Int) = (d : Int) + 1) := Lib.hid (by omega)
    rw [hd]
    have hd2 : d < 100 := by omega
    have d0 : ((d : Int) == 100) = false := by simp; omega
    have hv : avJoin m xm (f + 1) R l r = if wrap64 (avH R r + 1) < avH R l then
          avBal (withR (avJoin m xm f R (nodeG R l).right r).1 (nodeG R l) l (nodeG R l).left (avJoin m xm f R (nodeG R l).right r).2) l
        else if wrap64 (avH R l + 1) < avH R r then
          avBal (withR (avJoin m xm f R l (nodeG R r).left).1 (nodeG R r) r (avJoin m xm f R l (nodeG R r).left).2 (nodeG R r).right) r
        else (withR R m xm l r, xm) := by rw [avJoin]
    clear hd
    unfold treeV
    go_enter Tryz.func209, Tryz.ntmps209
    go_wp2_with fail
    rw [← hW0H.out]
    refine (hHt.out _ hB0.out l hl).mono ?_
    rintro e w1 ⟨rfl, hb1⟩
    have hb1H := Lib.hid (hB0.out.trans (hb1.mono hB0.out.size))
    have hX0b := Lib.hid (hX0.out.below hb1)
    clear hb1
    go_wp2_with fail
    refine (hHt.out _ hb1H.out r hr).mono ?_
    rintro e w2 ⟨rfl, hb2'⟩
    have hb2 := Lib.hid (hb1H.out.trans (hb2'.mono hb1H.out.size))
    have hX0' := Lib.hid (hX0b.out.below hb2')
    clear hb2' hb1H hX0b hX0 hB0 hW0H
    by_cases q1 : wrap64 (avH R r + 1) < avH R l
    · have d1 : decide (wrap64 (avH R r + 1) < avH R l) = true := by simp; omega
      rw [if_pos q1] at hv
      have hg3 := hGt.out _ hb2.out l hl
      obtain ⟨t, ht⟩ : ∃ t, nodeG R l = t := ⟨_, rfl⟩
      rw [ht] at hg3 hv
      have hokt := hokG.out l
      rw [ht] at hokt
      have hoktH := Lib.hid hokt
      have hg3H := Lib.hid hg3
      clear hg3 hokt ht
      go_wp2_with fail
      refine hg3H.out.mono ?_
      rintro e w3 ⟨rfl, hb3⟩
      have hb3H := Lib.hid (hb2.out.trans (hb3.mono hb2.out.size))
      have hz3 := hb3H.out.size
      have hX0g := Lib.hid (hX0'.out.below hb3)
      clear hb3 hg3H
      go_wp2_with fail
      obtain ⟨W3, hW⟩ : ∃ W, W = w3.alloc (Obj.cells #[.int .u64 (t.key : Nat), .int .u64 (t.val : Nat), .int .u64 (t.left : Nat), .int .u64 (t.right : Nat), .int .u64 (t.mark : Nat), .int .u64 (t.size : Nat), .int .u64 (l : Nat)] 296) := ⟨_, rfl⟩
      obtain ⟨b3, hb⟩ : ∃ b, b = w3.heap.size := ⟨_, rfl⟩
      have hX3 : Hid (Box W3 b3 296 [.int .u64 (t.key : Nat), .int .u64 (t.val : Nat), .int .u64 (t.left : Nat), .int .u64 (t.right : Nat), .int .u64 (t.mark : Nat), .int .u64 (t.size : Nat), .int .u64 (l : Nat)]) := Lib.hid (by rw [hW, hb]; exact Box.new w3 296 [.int .u64 (t.key : Nat), .int .u64 (t.val : Nat), .int .u64 (t.left : Nat), .int .u64 (t.right : Nat), .int .u64 (t.mark : Nat), .int .u64 (t.size : Nat), .int .u64 (l : Nat)])
      have hBW3 : Hid (Below w.heap.size w W3) := Lib.hid (by rw [hW]; exact hb3H.out.alloc hz3 _)
      have hX0w := Lib.hid (show Box W3 _ _ _ by rw [hW]; exact hX0g.out.alloc _)
      have hFb3 : ¬ F b3 := fun hf => by have := hFwH.out b3 hf; omega
      rw [← hW, ← hb]
      clear hW hb hz3 hb3H
      have c0 := fun X : Kp W3 F => Kp.cell (hX0w.out.at' (i := 0) rfl) hFb0 X
      have c1 := fun X : Kp W3 F => Kp.cell (hX0w.out.at' (i := 1) rfl) hFb0 X
      have c2 := fun X : Kp W3 F => Kp.cell (hX0w.out.at' (i := 2) rfl) hFb0 X
      have c3 := fun X : Kp W3 F => Kp.cell (hX0w.out.at' (i := 3) rfl) hFb0 X
      have c4 := fun X : Kp W3 F => Kp.cell (hX0w.out.at' (i := 4) rfl) hFb0 X
      have c5 := fun X : Kp W3 F => Kp.cell (hX0w.out.at' (i := 5) rfl) hFb0 X
      have c6 := fun X : Kp W3 F => Kp.cell (hX0w.out.at' (i := 6) rfl) hFb0 X
      have d0 := fun X : Kp W3 F => Kp.cell (hX3.out.at' (i := 0) rfl) hFb3 X
      have d1 := fun X : Kp W3 F => Kp.cell (hX3.out.at' (i := 1) rfl) hFb3 X
      have d2 := fun X : Kp W3 F => Kp.cell (hX3.out.at' (i := 2) rfl) hFb3 X
      have d3 := fun X : Kp W3 F => Kp.cell (hX3.out.at' (i := 3) rfl) hFb3 X
      have d4 := fun X : Kp W3 F => Kp.cell (hX3.out.at' (i := 4) rfl) hFb3 X
      have d5 := fun X : Kp W3 F => Kp.cell (hX3.out.at' (i := 5) rfl) hFb3 X
      have d6 := fun X : Kp W3 F => Kp.cell (hX3.out.at' (i := 6) rfl) hFb3 X
      refine wp_region_row (fun w' => ∃ X : Kp W3 F, w' = X.W) [0, 1, 2, 3, 4, 5, 6, 7, 8, 9, 10, 11, 12, 13] [14, 15, 16, 17] hmo (by kernel_rfl) rfl (by kernel_rfl) (Kp.start _ _) (fun _ _ d _ _ h => by cases d <;> exact h) ?_
      refine wpReads_step _ _ rfl rfl (by rintro _ ⟨X, rfl⟩; go_simp; exact rfl) ?_
      go_simp
      refine wpReads_step _ _ rfl rfl (by rintro _ ⟨X, rfl⟩; go_simp; exact rfl) ?_
      go_simp
      refine wpReads_step _ _ rfl rfl (by rintro _ ⟨X, rfl⟩; go_simp; exact rfl) ?_
      go_simp
      refine wpReads_step _ _ rfl rfl (by rintro _ ⟨X, rfl⟩; go_simp; exact rfl) ?_
      go_simp
      refine wpReads_step _ _ rfl rfl (by rintro _ ⟨X, rfl⟩; go_simp; exact rfl) ?_
      go_simp
      refine wpReads_step _ _ rfl rfl (by rintro _ ⟨X, rfl⟩; go_simp; exact rfl) ?_
      go_simp
      refine wpReads_step _ _ rfl rfl (by rintro _ ⟨X, rfl⟩; go_simp; exact rfl) ?_
      go_simp
      refine wpReads_step _ _ rfl rfl (by rintro _ ⟨X, rfl⟩; go_simp; exact rfl) ?_
      go_simp
      refine wpReads_step _ _ rfl rfl (by rintro _ ⟨X, rfl⟩; go_simp; exact rfl) ?_
      go_simp
      refine wpReads_step _ _ rfl rfl (by rintro _ ⟨X, rfl⟩; go_simp; exact rfl) ?_
      go_simp
      refine wpReads_step _ _ rfl rfl (by rintro _ ⟨X, rfl⟩; go_simp; exact rfl) ?_
      go_simp
      refine wpReads_step _ _ rfl rfl (by rintro _ ⟨X, rfl⟩; go_simp; exact rfl) ?_
      go_simp
      refine wpReads_step _ _ rfl rfl (by rintro _ ⟨X, rfl⟩; go_simp; exact rfl) ?_
      go_simp
      refine wpReads_step _ _ rfl rfl (by rintro _ ⟨X, rfl⟩; go_simp; exact rfl) ?_
      go_simp
      refine wpReads_nil ?_
      clear c0 c1 c2 c3 c4 c5 c6 d0 d1 d2 d3 d4 d5 d6
      have hih := ih W3.drew R t.right r (by omega) hoktH.out.right hr (hHs.out.below (hBW3.out.trans ((below_drawn W3).mono hBW3.out.size)))
      rw [hdn.out] at hih
      unfold treeV at hih
      generalize avJoin m xm f R t.right r = p4 at *
      obtain ⟨R4, y4⟩ := p4
      simp only at hih hv
      have hihH := Lib.hid hih
      have hvH := Lib.hid hv
      clear hih hv
      refine wpActs_step _ rfl (fun K1 hK1 => ?_)
      go_wp2_with fail
      refine hihH.out.mono ?_
      rintro e w4 ⟨rfl, hy4, hS4, hT4⟩
      have hT4H : Hid (Turn W3 F w4 F) := Lib.hid ((Turn.below (below_drawn W3)).trans hT4)
      have hwt := with_at hS4 t hoktH.out l t.left y4 hl hoktH.out.left hy4
      unfold treeV at hwt
      have hwtH := Lib.hid hwt
      clear hS4 hT4 hihH hwt
      go_wp2
      refine hK1 _ _ ⟨⟨w4, F, hT4H.out⟩, rfl⟩ ?_
      clear hK1 K1
      refine wpActs_step _ rfl (fun K2 hK2 => ?_)
      go_wp2_with fail
      refine hwtH.out.mono ?_
      rintro e w5 ⟨rfl, hS5, hT5⟩
      have hT5H := Lib.hid (hT4H.out.trans hT5)
      have hbl := Lib.hid (avBal_at hS5 l hl)
      clear hS5 hT5 hwtH
      go_wp2
      refine hK2 _ _ ⟨⟨w5, F, hT5H.out⟩, rfl⟩ ?_
      clear hK2 K2
      refine wpActs_step _ rfl (fun K3 hK3 => ?_)
      go_wp2_with fail
      refine hbl.out.mono ?_
      rintro e w6 ⟨rfl, hlt6, hS6, hT6⟩
      have hT6H := Lib.hid (hT5H.out.trans hT6)
      have hS6H := Lib.hid hS6
      clear hS6 hT6 hbl
      go_wp2
      refine hK3 _ _ ⟨⟨w6, F, hT6H.out⟩, rfl⟩ ?_
      clear hK3 K3
      refine wpActs_step _ rfl (fun K4 hK4 => ?_)
      go_wp2
      refine hK4 _ _ ⟨⟨w6, F, hT6H.out⟩, rfl⟩ ?_
      clear hK4 K4
      refine wpActs_nil ?_
      go_wp2
      go_ret
      rw [hvH.out]
      exact ⟨rfl, hlt6, hS6H.out, (Turn.below hBW3.out).trans hT6H.out⟩
    · have d1 : decide (wrap64 (avH R r + 1) < avH R l) = false := by simp; omega
      rw [if_neg q1] at hv
      by_cases q2 : wrap64 (avH R l + 1) < avH R r
      · have d2 : decide (wrap64 (avH R l + 1) < avH R r) = true := by simp; omega
        rw [if_pos q2] at hv
        have hg3 := hGt.out _ hb2.out r hr
        obtain ⟨t, ht⟩ : ∃ t, nodeG R r = t := ⟨_, rfl⟩
        rw [ht] at hg3 hv
        have hokt := hokG.out r
        rw [ht] at hokt
        have hoktH := Lib.hid hokt
        have hg3H := Lib.hid hg3
        clear hg3 hokt ht
        go_wp2_with fail
        refine hg3H.out.mono ?_
        rintro e w3 ⟨rfl, hb3⟩
        have hb3H := Lib.hid (hb2.out.trans (hb3.mono hb2.out.size))
        have hz3 := hb3H.out.size
        have hX0g := Lib.hid (hX0'.out.below hb3)
        clear hb3 hg3H
        go_wp2_with fail
        obtain ⟨W3, hW⟩ : ∃ W, W = w3.alloc (Obj.cells #[.int .u64 (t.key : Nat), .int .u64 (t.val : Nat), .int .u64 (t.left : Nat), .int .u64 (t.right : Nat), .int .u64 (t.mark : Nat), .int .u64 (t.size : Nat), .int .u64 (r : Nat)] 296) := ⟨_, rfl⟩
        obtain ⟨b3, hb⟩ : ∃ b, b = w3.heap.size := ⟨_, rfl⟩
        have hX3 : Hid (Box W3 b3 296 [.int .u64 (t.key : Nat), .int .u64 (t.val : Nat), .int .u64 (t.left : Nat), .int .u64 (t.right : Nat), .int .u64 (t.mark : Nat), .int .u64 (t.size : Nat), .int .u64 (r : Nat)]) := Lib.hid (by rw [hW, hb]; exact Box.new w3 296 [.int .u64 (t.key : Nat), .int .u64 (t.val : Nat), .int .u64 (t.left : Nat), .int .u64 (t.right : Nat), .int .u64 (t.mark : Nat), .int .u64 (t.size : Nat), .int .u64 (r : Nat)])
        have hBW3 : Hid (Below w.heap.size w W3) := Lib.hid (by rw [hW]; exact hb3H.out.alloc hz3 _)
        have hX0w := Lib.hid (show Box W3 _ _ _ by rw [hW]; exact hX0g.out.alloc _)
        have hFb3 : ¬ F b3 := fun hf => by have := hFwH.out b3 hf; omega
        rw [← hW, ← hb]
        clear hW hb hz3 hb3H
        have c0 := fun X : Kp W3 F => Kp.cell (hX0w.out.at' (i := 0) rfl) hFb0 X
        have c1 := fun X : Kp W3 F => Kp.cell (hX0w.out.at' (i := 1) rfl) hFb0 X
        have c2 := fun X : Kp W3 F => Kp.cell (hX0w.out.at' (i := 2) rfl) hFb0 X
        have c3 := fun X : Kp W3 F => Kp.cell (hX0w.out.at' (i := 3) rfl) hFb0 X
        have c4 := fun X : Kp W3 F => Kp.cell (hX0w.out.at' (i := 4) rfl) hFb0 X
        have c5 := fun X : Kp W3 F => Kp.cell (hX0w.out.at' (i := 5) rfl) hFb0 X
        have c6 := fun X : Kp W3 F => Kp.cell (hX0w.out.at' (i := 6) rfl) hFb0 X
        have d0 := fun X : Kp W3 F => Kp.cell (hX3.out.at' (i := 0) rfl) hFb3 X
        have d1 := fun X : Kp W3 F => Kp.cell (hX3.out.at' (i := 1) rfl) hFb3 X
        have d2 := fun X : Kp W3 F => Kp.cell (hX3.out.at' (i := 2) rfl) hFb3 X
        have d3 := fun X : Kp W3 F => Kp.cell (hX3.out.at' (i := 3) rfl) hFb3 X
        have d4 := fun X : Kp W3 F => Kp.cell (hX3.out.at' (i := 4) rfl) hFb3 X
        have d5 := fun X : Kp W3 F => Kp.cell (hX3.out.at' (i := 5) rfl) hFb3 X
        have d6 := fun X : Kp W3 F => Kp.cell (hX3.out.at' (i := 6) rfl) hFb3 X
        refine wp_region_row (fun w' => ∃ X : Kp W3 F, w' = X.W) [0, 1, 2, 3, 4, 5, 6, 7, 8, 9, 10, 12, 13, 14] [11, 15, 16, 17] hmo (by kernel_rfl) rfl (by kernel_rfl) (Kp.start _ _) (fun _ _ d _ _ h => by cases d <;> exact h) ?_
        refine wpReads_step _ _ rfl rfl (by rintro _ ⟨X, rfl⟩; go_simp; exact rfl) ?_
        go_simp
        refine wpReads_step _ _ rfl rfl (by rintro _ ⟨X, rfl⟩; go_simp; exact rfl) ?_
        go_simp
        refine wpReads_step _ _ rfl rfl (by rintro _ ⟨X, rfl⟩; go_simp; exact rfl) ?_
        go_simp
        refine wpReads_step _ _ rfl rfl (by rintro _ ⟨X, rfl⟩; go_simp; exact rfl) ?_
        go_simp
        refine wpReads_step _ _ rfl rfl (by rintro _ ⟨X, rfl⟩; go_simp; exact rfl) ?_
        go_simp
        refine wpReads_step _ _ rfl rfl (by rintro _ ⟨X, rfl⟩; go_simp; exact rfl) ?_
        go_simp
        refine wpReads_step _ _ rfl rfl (by rintro _ ⟨X, rfl⟩; go_simp; exact rfl) ?_
        go_simp
        refine wpReads_step _ _ rfl rfl (by rintro _ ⟨X, rfl⟩; go_simp; exact rfl) ?_
        go_simp
        refine wpReads_step _ _ rfl rfl (by rintro _ ⟨X, rfl⟩; go_simp; exact rfl) ?_
        go_simp
        refine wpReads_step _ _ rfl rfl (by rintro _ ⟨X, rfl⟩; go_simp; exact rfl) ?_
        go_simp
        refine wpReads_step _ _ rfl rfl (by rintro _ ⟨X, rfl⟩; go_simp; exact rfl) ?_
        go_simp
        refine wpReads_step _ _ rfl rfl (by rintro _ ⟨X, rfl⟩; go_simp; exact rfl) ?_
        go_simp
        refine wpReads_step _ _ rfl rfl (by rintro _ ⟨X, rfl⟩; go_simp; exact rfl) ?_
        go_simp
        refine wpReads_step _ _ rfl rfl (by rintro _ ⟨X, rfl⟩; go_simp; exact rfl) ?_
        go_simp
        refine wpReads_nil ?_
        clear c0 c1 c2 c3 c4 c5 c6 d0 d1 d2 d3 d4 d5 d6
        have hih := ih W3.drew R l t.left (by omega) hl hoktH.out.left (hHs.out.below (hBW3.out.trans ((below_drawn W3).mono hBW3.out.size)))
        rw [hdn.out] at hih
        unfold treeV at hih
        generalize avJoin m xm f R l t.left = p4 at *
        obtain ⟨R4, y4⟩ := p4
        simp only at hih hv
        have hihH := Lib.hid hih
        have hvH := Lib.hid hv
        clear hih hv
        refine wpActs_step _ rfl (fun K1 hK1 => ?_)
        go_wp2_with fail
        refine hihH.out.mono ?_
        rintro e w4 ⟨rfl, hy4, hS4, hT4⟩
        have hT4H : Hid (Turn W3 F w4 F) := Lib.hid ((Turn.below (below_drawn W3)).trans hT4)
        have hwt := with_at hS4 t hoktH.out r y4 t.right hr hy4 hoktH.out.right
        unfold treeV at hwt
        have hwtH := Lib.hid hwt
        clear hS4 hT4 hihH hwt
        go_wp2
        refine hK1 _ _ ⟨⟨w4, F, hT4H.out⟩, rfl⟩ ?_
        clear hK1 K1
        refine wpActs_step _ rfl (fun K2 hK2 => ?_)
        go_wp2_with fail
        refine hwtH.out.mono ?_
        rintro e w5 ⟨rfl, hS5, hT5⟩
        have hT5H := Lib.hid (hT4H.out.trans hT5)
        have hbl := Lib.hid (avBal_at hS5 r hr)
        clear hS5 hT5 hwtH
        go_wp2
        refine hK2 _ _ ⟨⟨w5, F, hT5H.out⟩, rfl⟩ ?_
        clear hK2 K2
        refine wpActs_step _ rfl (fun K3 hK3 => ?_)
        go_wp2_with fail
        refine hbl.out.mono ?_
        rintro e w6 ⟨rfl, hlt6, hS6, hT6⟩
        have hT6H := Lib.hid (hT5H.out.trans hT6)
        have hS6H := Lib.hid hS6
        clear hS6 hT6 hbl
        go_wp2
        refine hK3 _ _ ⟨⟨w6, F, hT6H.out⟩, rfl⟩ ?_
        clear hK3 K3
        refine wpActs_step _ rfl (fun K4 hK4 => ?_)
        go_wp2
        refine hK4 _ _ ⟨⟨w6, F, hT6H.out⟩, rfl⟩ ?_
        clear hK4 K4
        refine wpActs_nil ?_
        go_wp2
        go_ret
        rw [hvH.out]
        exact ⟨rfl, hlt6, hS6H.out, (Turn.below hBW3.out).trans hT6H.out⟩
      · have d2 : decide (wrap64 (avH R l + 1) < avH R r) = false := by simp; omega
        rw [if_neg q2] at hv
        have hwt := with_at (hHs.out.below hb2.out) m hokm xm l r hxm hl hr
        unfold treeV at hwt
        have hwtH := Lib.hid hwt
        clear hwt
        have c0 := hX0'.out.at' (i := 0) rfl
        have c1 := hX0'.out.at' (i := 1) rfl
        have c2 := hX0'.out.at' (i := 2) rfl
        have c3 := hX0'.out.at' (i := 3) rfl
        have c4 := hX0'.out.at' (i := 4) rfl
        have c5 := hX0'.out.at' (i := 5) rfl
        have c6 := hX0'.out.at' (i := 6) rfl
        have hvH := Lib.hid hv
        clear hv
        go_wp2_with fail
        refine hwtH.out.mono ?_
        rintro e w4 ⟨rfl, hS4, hT4⟩
        have hS4H := Lib.hid hS4
        have hT4H := Lib.hid ((Turn.below (F := F) hb2.out).trans hT4)
        clear hS4 hT4 hwtH c0 c1 c2 c3 c4 c5 c6
        go_wp2
        go_ret
        rw [hvH.out]
        exact ⟨rfl, hxm, hS4H.out, hT4H.out⟩
end
end Go.Proofs.YtijpmjaeanocpaaGreatDoor

set_option linter.unusedVariables false
set_option linter.unusedSimpArgs false
namespace Go.Proofs.YtijpmjaeanocpaaGreatDoor
open Go.RowKit Go.Shelf
set_option maxRecDepth 100000 in
theorem avIs_at {w : World} {s N : Nat} {R : Nat → Option (List Nat)} {n : Nat} (h : Rd N w s R n) (x : Nat) (hx : x < 18446744073709551616) : Calls Tryz.prog 208 #[.pointer (some ⟨s, 0, none⟩), .int .u64 (x : Nat)] w fun e w' => e = .returned (.bool (isR R x)) ∧ Below w.heap.size w w' := by
  obtain ⟨nd, hnd⟩ : ∃ nd, nodeG R x = nd := ⟨_, rfl⟩
  obtain ⟨z, hz⟩ : ∃ z, nodeE R x = z := ⟨_, rfl⟩
  have hG := Lib.hid (nget_lit h x hx nd hnd z hz)
  have hv : isR R x = (x == 0 || z == 0) := by unfold isR; rw [hz]
  by_cases h0 : x = 0
  · have d : ((x : Int) == 0) = true := by simp; omega
    have hv2 : Hid (isR R x = true) := Lib.hid (by rw [hv, h0]; rfl)
    clear h hnd hz hv h0
    go_enter Tryz.func208, Tryz.ntmps208
    go_wp2_with fail
    refine hG.out.mono ?_
    rintro e w1 ⟨rfl, hb⟩
    have hbH := Lib.hid hb
    have hz1 := hb.size
    clear hb
    go_wp2
    go_ret
    exact ⟨by rw [hv2.out]; rfl, hbH.out.alloc hz1 _⟩
  · have d : ((x : Int) == 0) = false := by simp; omega
    have hv2 : Hid (isR R x = (z == 0)) := Lib.hid (by rw [hv]; simp [h0])
    have hzz : z = 0 ∨ z ≠ 0 := by omega
    rcases hzz with hz0 | hz0
    · have d2 : ((z : Int) == 0) = true := by simp; omega
      have hv3 : Hid (isR R x = true) := Lib.hid (by rw [hv2.out, hz0]; rfl)
      clear h hnd hz hv h0 hz0
      go_enter Tryz.func208, Tryz.ntmps208
      go_wp2_with fail
      refine hG.out.mono ?_
      rintro e w1 ⟨rfl, hb⟩
      have hbH := Lib.hid hb
      have hz1 := hb.size
      clear hb
      go_wp2
      go_ret
      exact ⟨by rw [hv3.out]; rfl, hbH.out.alloc hz1 _⟩
    · have d2 : ((z : Int) == 0) = false := by simp; omega
      have hv3 : Hid (isR R x = false) := Lib.hid (by rw [hv2.out]; simpa using hz0)
      clear h hnd hz hv h0 hz0
      go_enter Tryz.func208, Tryz.ntmps208
      go_wp2_with fail
      refine hG.out.mono ?_
      rintro e w1 ⟨rfl, hb⟩
      have hbH := Lib.hid hb
      have hz1 := hb.size
      clear hb
      go_wp2
      go_ret
      exact ⟨by rw [hv3.out]; rfl, hbH.out.alloc hz1 _⟩
section
variable {w w' : World} {s : Nat} {F : Nat → Prop} {R : Nat → Option (List Nat)} {H : List Nat} {P q most last G : Nat}
set_option maxHeartbeats 4000000 in
set_option maxRecDepth 100000 in
theorem avTop_at (h : StoreIs w s F R H P q most last G) (l m r : Nat) (hl : l < 18446744073709551616) (hm : m < 18446744073709551616) (hr : r < 18446744073709551616) :
    Calls Tryz.prog 167 #[.pointer (some ⟨s, 0, none⟩), .int .u64 (l : Nat), .int .u64 (m : Nat), .int .u64 (r : Nat)] w fun e w' => e = .returned (.tuple #[.int .u64 ((avTop R l m r).2.1 : Nat), .int .i64 ((avTop R l m r).2.2 : Nat)]) ∧ StoreIs w' s F (avTop R l m r).1 H P q most last G ∧ Turn w F w' F := by
  obtain ⟨n, hrd, _⟩ := h.rd
  have hLen := rlen_at hrd 0 (by omega)
  have hI := Lib.hid (fun W (hb : Below w.heap.size w W) y (hy : y < 18446744073709551616) => avIs_at (hrd.below hb) y hy)
  have hGt := Lib.hid (fun W (hb : Below w.heap.size w W) => by have := avGet_at (hrd.below hb) m hm; unfold treeV at this; exact this)
  have hokm := Lib.hid (hrd.nodeG m)
  have hHs := Lib.hid h
  obtain ⟨lv, hlv, hle⟩ : ∃ (a b : Nat), lenR R 0 = .tuple #[.int .i64 (a : Nat), .int .i64 (b : Nat)] ∧ b ≠ 1 := by
    unfold lenR
    cases R 0 with
    | none => exact ⟨0, 7, rfl, by decide⟩
    | some ws => exact ⟨ws.length, 0, rfl, by decide⟩
  rw [hle.1] at hLen
  have hl1 := hle.2
  have dl : ((hlv : Int) == 1) = false := by simp; omega
  have hLenH := Lib.hid hLen
  clear h hrd hLen hle
  have fin : ∀ (hc : ¬ (m ≠ 0 ∧ isR R l = true ∧ isR R m = true ∧ isR R r = true)), Hid (avTop R l m r = (R, 0, 8)) := fun hc => Lib.hid (avTop_no hc)
  by_cases hm0 : m = 0
  · have d0 : ((m : Int) == 0) = true := by simp; omega
    have hv := fin (fun hc => hc.1 hm0)
    clear fin hm0
    go_enter Tryz.func167, Tryz.ntmps167
    go_wp2_with fail
    refine hLenH.out.mono ?_
    rintro e w1 ⟨rfl, rfl⟩
    go_wp2
    go_ret2
    rw [hv.out]
    exact ⟨rfl, hHs.out, Turn.refl _ _⟩
  · have d0 : ((m : Int) == 0) = false := by simp; omega
    cases h1 : isR R l with
    | false =>
      have hv := fin (fun hc => by rw [h1] at hc; cases hc.2.1)
      have hi1 := Lib.hid (hI.out w (Below.refl _ _) l hl)
      rw [h1] at hi1
      clear fin h1 hm0 hI
      go_enter Tryz.func167, Tryz.ntmps167
      go_wp2_with fail
      refine hLenH.out.mono ?_
      rintro e w1 ⟨rfl, rfl⟩
      go_wp2_with fail
      refine hi1.out.mono ?_
      rintro e w1 ⟨rfl, hb1⟩
      have hb1H := Lib.hid hb1
      clear hb1
      go_wp2
      go_ret2
      rw [hv.out]
      exact ⟨rfl, hHs.out.below hb1H.out, Turn.below hb1H.out⟩
    | true =>
      have hi1 := Lib.hid (hI.out w (Below.refl _ _) l hl)
      have hi2 := Lib.hid (fun W (hb : Below w.heap.size w W) => hI.out W hb m hm)
      rw [h1] at hi1
      cases h2 : isR R m with
      | false =>
        have hv := fin (fun hc => by rw [h2] at hc; cases hc.2.2.1)
        rw [h2] at hi2
        clear fin h1 h2 hm0 hI
        go_enter Tryz.func167, Tryz.ntmps167
        go_wp2_with fail
        refine hLenH.out.mono ?_
        rintro e w1 ⟨rfl, rfl⟩
        go_wp2_with fail
        refine hi1.out.mono ?_
        rintro e w1 ⟨rfl, hb1⟩
        have hb1H := Lib.hid hb1
        clear hb1
        go_wp2_with fail
        refine (hi2.out _ hb1H.out).mono ?_
        rintro e w2 ⟨rfl, hb2⟩
        have hb2H := Lib.hid (hb1H.out.trans (hb2.mono hb1H.out.size))
        clear hb2
        go_wp2
        go_ret2
        rw [hv.out]
        exact ⟨rfl, hHs.out.below hb2H.out, Turn.below hb2H.out⟩
      | true =>
        have hi3 := Lib.hid (fun W (hb : Below w.heap.size w W) => hI.out W hb r hr)
        rw [h2] at hi2
        cases h3 : isR R r with
        | false =>
          have hv := fin (fun hc => by rw [h3] at hc; cases hc.2.2.2)
          rw [h3] at hi3
          clear fin h1 h2 h3 hm0 hI
          go_enter Tryz.func167, Tryz.ntmps167
          go_wp2_with fail
          refine hLenH.out.mono ?_
          rintro e w1 ⟨rfl, rfl⟩
          go_wp2_with fail
          refine hi1.out.mono ?_
          rintro e w1 ⟨rfl, hb1⟩
          have hb1H := Lib.hid hb1
          clear hb1
          go_wp2_with fail
          refine (hi2.out _ hb1H.out).mono ?_
          rintro e w2 ⟨rfl, hb2⟩
          have hb2H := Lib.hid (hb1H.out.trans (hb2.mono hb1H.out.size))
          clear hb2
          go_wp2_with fail
          refine (hi3.out _ hb2H.out).mono ?_
          rintro e w3 ⟨rfl, hb3⟩
          have hb3H := Lib.hid (hb2H.out.trans (hb3.mono hb2H.out.size))
          clear hb3
          go_wp2
          go_ret2
          rw [hv.out]
          exact ⟨rfl, hHs.out.below hb3H.out, Turn.below hb3H.out⟩
        | true =>
          have hv := Lib.hid (avTop_yes (R := R) (l := l) (m := m) (r := r) ⟨hm0, h1, h2, h3⟩)
          have hj := Lib.hid (fun W (hb : Below w.heap.size w W) => avJoin_at (nodeG R m) hokm.out m hm 100 W R l r (Nat.le_refl _) hl hr (hHs.out.below hb))
          unfold treeV at hj
          rw [h3] at hi3
          generalize avJoin (nodeG R m) m 100 R l r = p at *
          have hj2 : Hid (∀ W, Below w.heap.size w W → Calls Tryz.prog 209 #[.pointer (some ⟨s, 0, none⟩), .int .u64 (l : Nat), .int .u64 (r : Nat), .agg #[.int .u64 ((nodeG R m).key : Nat), .int .u64 ((nodeG R m).val : Nat), .int .u64 ((nodeG R m).left : Nat), .int .u64 ((nodeG R m).right : Nat), .int .u64 ((nodeG R m).mark : Nat), .int .u64 ((nodeG R m).size : Nat), .int .u64 (m : Nat)], .int .i64 0] W fun e w' => e = .returned (.int .u64 (p.2 : Nat)) ∧ p.2 < 18446744073709551616 ∧ StoreIs w' s F p.1 H P q most last G ∧ Turn W F w' F) := hj
          clear fin h1 h2 h3 hm0 hI hj
          go_enter Tryz.func167, Tryz.ntmps167
          go_wp2_with fail
          refine hLenH.out.mono ?_
          rintro e w1 ⟨rfl, rfl⟩
          go_wp2_with fail
          refine hi1.out.mono ?_
          rintro e w1 ⟨rfl, hb1⟩
          have hb1H := Lib.hid hb1
          clear hb1
          go_wp2_with fail
          refine (hi2.out _ hb1H.out).mono ?_
          rintro e w2 ⟨rfl, hb2⟩
          have hb2H := Lib.hid (hb1H.out.trans (hb2.mono hb1H.out.size))
          clear hb2
          go_wp2_with fail
          refine (hi3.out _ hb2H.out).mono ?_
          rintro e w3 ⟨rfl, hb3⟩
          have hb3H := Lib.hid (hb2H.out.trans (hb3.mono hb2H.out.size))
          clear hb3
          go_wp2_with fail
          refine (hGt.out _ hb3H.out).mono ?_
          rintro e w4 ⟨rfl, hb4⟩
          have hb4H := Lib.hid (hb3H.out.trans (hb4.mono hb3H.out.size))
          clear hb4
          go_wp2_with fail
          refine (hj2.out _ hb4H.out).mono ?_
          rintro e w5 ⟨rfl, hlt, hS5, hT5⟩
          have hS5H := Lib.hid hS5
          have hT5H := Lib.hid ((Turn.below (F := F) hb4H.out).trans hT5)
          clear hS5 hT5
          go_wp2
          go_ret2
          rw [hv.out, okW_1, okW_2, okW_3]
          exact ⟨rfl, hS5H.out, hT5H.out⟩
end
end Go.Proofs.YtijpmjaeanocpaaGreatDoor

set_option linter.unusedVariables false
set_option linter.unusedSimpArgs false
namespace Go.Proofs.YtijpmjaeanocpaaGreatDoor
open Go.RowKit Go.Shelf
def avBad1 (R : Nat → Option (List Nat)) (x : Nat) : Bool := (((nodeG R x).mark : Nat) : Int) != ((toU (wrap64 (max (avH R (nodeG R x).left) (avH R (nodeG R x).right) + 1)) : Nat) : Int)
def avBad2 (R : Nat → Option (List Nat)) (x : Nat) : Bool := decide (wrap64 (avH R (nodeG R x).right + 1) < avH R (nodeG R x).left)
def avBad3 (R : Nat → Option (List Nat)) (x : Nat) : Bool := decide (wrap64 (avH R (nodeG R x).left + 1) < avH R (nodeG R x).right)
def avBad (R : Nat → Option (List Nat)) (x : Nat) : Bool := avBad1 R x || avBad2 R x || avBad3 R x
def acheckR (R : Nat → Option (List Nat)) (n root : Nat) : Nat := if checkR R n root ≠ 0 then checkR R n root else if (inR R n root).any (avBad R) then 8 else 0
section
variable {w w' : World} {s N : Nat} {R : Nat → Option (List Nat)} {n : Nat}
theorem Bel.start (w : World) : ∃ X : Bel w, { w with drawn := w.drawn + 1 } = X.W := ⟨⟨_, below_drawn w⟩, rfl⟩
set_option maxHeartbeats 4000000 in
set_option maxRecDepth 100000 in
theorem avCheck_at (h : Rd N w s R n) (hsh : Short R) (x : Nat) (hx : x < 18446744073709551616) :
    Calls Tryz.prog 168 #[.pointer (some ⟨s, 0, none⟩), .int .u64 (x : Nat)] w fun e w' => e = .returned (.int .i64 (acheckR R n x : Nat)) ∧ Below w.heap.size w w' := by
  have hmo : Tryz.prog.follows .mixedOrders = true := by kernel_rfl
  have hCk := check_at h hsh x hx
  have hLi := Lib.hid (fun W (hb : Below w.heap.size w W) => list_at (h.below hb) x hx)
  have hGt := Lib.hid (fun W (hb : Below w.heap.size w W) y (hy : y < 18446744073709551616) => by have := avGet_at (h.below hb) y hy; unfold treeV at this; exact this)
  have hHt := Lib.hid (fun W (hb : Below w.heap.size w W) y (hy : y < 18446744073709551616) => avHeight_at (h.below hb) y hy)
  have hokG := Lib.hid (fun y => h.nodeG y)
  have hlen := inR_len R n x
  have hnle := h.le
  have hLlt := Lib.hid (fun y (hy : y ∈ inR R n x) => inR_lt (fun z => h.nodeG z) hx y hy)
  obtain ⟨c, hc⟩ : ∃ c, checkR R n x = c := ⟨_, rfl⟩
  have hv : acheckR R n x = if c ≠ 0 then c else if (inR R n x).any (avBad R) then 8 else 0 := by unfold acheckR; rw [hc]
  have hc9 : c = 0 ∨ c = 8 := by rw [← hc]; exact checkR_val R n x
  rw [hc] at hCk
  have hCkH := Lib.hid hCk
  generalize inR R n x = L at *
  clear hCk hc
  by_cases hc0 : c = 0
  · have dc : ((c : Int) != 0) = false := by rw [hc0]; rfl
    rw [if_neg (by simp [hc0])] at hv
    have hvH := Lib.hid hv
    clear hv hc0 hc9 h hsh
    go_enter Tryz.func168, Tryz.ntmps168
    go_wp2_with fail
    refine hCkH.out.mono ?_
    rintro e w1 ⟨rfl, hb1⟩
    have hb1H := Lib.hid hb1
    clear hb1 hCkH
    go_wp2_with fail
    refine (hLi.out _ hb1H.out).mono ?_
    rintro e w2 ⟨v, rfl, hro, hb2⟩
    obtain ⟨A2, c2, rfl⟩ := ownsRow_form hro
    have hb2H := Lib.hid (hb1H.out.trans (hb2.mono hb1H.out.size))
    have hcl : Hid (∀ i (hi : i < L.length), ∃ g, A2 = some ⟨g, 0, none⟩ ∧ ∀ W, Below w2.heap.size w2 W → W.cell? ⟨g, i, none⟩ = some (.int .u64 (L[i] : Nat))) := Lib.hid (fun i hi => by
      obtain ⟨g, cap, hv⟩ := row_pos hro (by omega)
      cases hv
      refine ⟨g, rfl, fun W hb => ?_⟩
      have h1 := hro.cells (g := g) rfl i (.int .u64 (L[i] : Nat)) (by rw [hsV, List.getElem?_map, List.getElem?_eq_getElem hi]; rfl)
      rw [show (⟨g, 0, none⟩ : Addr).add i = ⟨g, i, none⟩ by unfold Addr.add; split <;> simp_all] at h1
      exact (hb.cell (p := ⟨g, i, none⟩) (cell_lt h1)).trans h1)
    clear hro hb2 hLi hb1H
    go_wp2_with fail
    go_loopw [21] (fun iv wr => ∃ k : Nat, k ≤ L.length ∧ iv = .int .i64 k ∧ Hid (Below w2.heap.size w2 wr) ∧ Hid ((L.take k).any (avBad R) = false)) (fun iv _ => L.length - (intOf iv).toNat)
    case atStart => exact ⟨0, by omega, rfl, Lib.hid (Below.refl _ _), Lib.hid (by simp)⟩
    case round =>
      obtain ⟨k, hk, rfl, hbr, hpre⟩ := hrel
      by_cases hlt : k < L.length
      · obtain ⟨g, hA, hg⟩ := hcl.out k hlt
        subst hA
        have hc0 := hg wr hbr.out
        have hylt := hLlt.out L[k] (List.getElem_mem hlt)
        have hnx : Hid ((L.take (k + 1)).any (avBad R) = avBad R L[k]) := Lib.hid (by rw [List.take_succ_eq_append_getElem hlt, List.any_append, hpre.out]; simp)
        have hall : Hid (avBad R L[k] = true → L.any (avBad R) = true) := Lib.hid (fun hb => List.any_eq_true.2 ⟨_, List.getElem_mem hlt, hb⟩)
        obtain ⟨y, hy⟩ : ∃ y, L[k] = y := ⟨_, rfl⟩
        rw [hy] at hc0 hylt hnx hall
        have hbwr := Lib.hid (hb2H.out.trans (hbr.out.mono hb2H.out.size))
        obtain ⟨t, ht⟩ : ∃ t, nodeG R y = t := ⟨_, rfl⟩
        have hg3 := hGt.out wr hbwr.out y hylt
        have hokt := hokG.out y
        have hbd1 : avBad1 R y = (((t.mark : Nat) : Int) != ((toU (wrap64 (max (avH R t.left) (avH R t.right) + 1)) : Nat) : Int)) := by unfold avBad1; rw [ht]
        have hbd2 : avBad2 R y = decide (wrap64 (avH R t.right + 1) < avH R t.left) := by unfold avBad2; rw [ht]
        have hbd3 : avBad3 R y = decide (wrap64 (avH R t.left + 1) < avH R t.right) := by unfold avBad3; rw [ht]
        have hbd : avBad R y = (avBad1 R y || avBad2 R y || avBad3 R y) := rfl
        rw [hbd1, hbd2, hbd3] at hbd
        rw [← wrapU] at hbd
        rw [ht] at hg3 hokt
        have hg3H := Lib.hid hg3
        have hoktH := Lib.hid hokt
        have hbdH := Lib.hid hbd
        clear hg3 hokt ht hy hbd hbd1 hbd2 hbd3 hg hcl
        go_wp2_with fail
        refine hg3H.out.mono ?_
        rintro e w3 ⟨rfl, hb3⟩
        have hb3H := Lib.hid (hbwr.out.trans (hb3.mono hbwr.out.size))
        have hbr3 := Lib.hid (hbr.out.trans (hb3.mono hbr.out.size))
        have hz3 := hbr3.out.size
        have hz4 := hb3H.out.size
        clear hb3 hg3H hc0
        go_wp2_with fail
        obtain ⟨W3, hW⟩ : ∃ W, W = w3.alloc (Obj.cells #[.int .u64 (t.key : Nat), .int .u64 (t.val : Nat), .int .u64 (t.left : Nat), .int .u64 (t.right : Nat), .int .u64 (t.mark : Nat), .int .u64 (t.size : Nat), .int .u64 (y : Nat)] 296) := ⟨_, rfl⟩
        obtain ⟨b3, hb⟩ : ∃ b, b = w3.heap.size := ⟨_, rfl⟩
        have hX3 : Hid (Box W3 b3 296 [.int .u64 (t.key : Nat), .int .u64 (t.val : Nat), .int .u64 (t.left : Nat), .int .u64 (t.right : Nat), .int .u64 (t.mark : Nat), .int .u64 (t.size : Nat), .int .u64 (y : Nat)]) := Lib.hid (by rw [hW, hb]; exact Box.new w3 296 [.int .u64 (t.key : Nat), .int .u64 (t.val : Nat), .int .u64 (t.left : Nat), .int .u64 (t.right : Nat), .int .u64 (t.mark : Nat), .int .u64 (t.size : Nat), .int .u64 (y : Nat)])
        have hBW3 : Hid (Below w.heap.size w W3) := Lib.hid (by rw [hW]; exact hb3H.out.alloc hz4 _)
        have hBr3 : Hid (Below w2.heap.size w2 W3) := Lib.hid (by rw [hW]; exact hbr3.out.alloc hz3 _)
        rw [← hW, ← hb]
        clear hW hb hz3 hz4 hb3H hbr3
        have c2 := fun X : Bel W3 => X.cell (hX3.out.at' (i := 2) rfl)
        have c3 := fun X : Bel W3 => X.cell (hX3.out.at' (i := 3) rfl)
        refine wp_region_row (fun w' => ∃ X : Bel W3, w' = X.W) [0, 1, 2, 3, 5, 6, 7, 8] [4, 9, 10, 11] hmo (by kernel_rfl) rfl (by kernel_rfl) (Bel.start _) (fun _ _ d _ _ h => by cases d <;> exact h) ?_
        refine wpReads_step _ _ rfl rfl (by rintro _ ⟨X, rfl⟩; go_simp; exact rfl) ?_
        go_simp
        refine wpReads_step _ _ rfl rfl (by rintro _ ⟨X, rfl⟩; go_simp; exact rfl) ?_
        go_simp
        refine wpReads_step _ _ rfl rfl (by rintro _ ⟨X, rfl⟩; go_simp; exact rfl) ?_
        go_simp
        refine wpReads_step _ _ rfl rfl (by rintro _ ⟨X, rfl⟩; go_simp; exact rfl) ?_
        go_simp
        refine wpReads_step _ _ rfl rfl (by rintro _ ⟨X, rfl⟩; go_simp; exact rfl) ?_
        go_simp
        refine wpReads_step _ _ rfl rfl (by rintro _ ⟨X, rfl⟩; go_simp; exact rfl) ?_
        go_simp
        refine wpReads_step _ _ rfl rfl (by rintro _ ⟨X, rfl⟩; go_simp; exact rfl) ?_
        go_simp
        refine wpReads_step _ _ rfl rfl (by rintro _ ⟨X, rfl⟩; go_simp; exact rfl) ?_
        go_simp
        refine wpReads_nil ?_
        clear c2 c3
        have hbd4 : Hid (Below w.heap.size w W3.drew) := Lib.hid (hBW3.out.trans ((below_drawn W3).mono hBW3.out.size))
        refine wpActs_step _ rfl (fun K1 hK1 => ?_)
        go_wp2_with fail
        refine (hHt.out _ hbd4.out t.left hoktH.out.left).mono ?_
        rintro e w4 ⟨rfl, hb4⟩
        have hb4H := Lib.hid (hbd4.out.trans (hb4.mono hbd4.out.size))
        have hk4 : Hid (Below W3.heap.size W3 w4) := Lib.hid ((below_drawn W3).trans hb4)
        clear hb4
        go_wp2
        refine hK1 _ _ ⟨⟨w4, hk4.out⟩, rfl⟩ ?_
        clear hK1 K1
        refine wpActs_step _ rfl (fun K2 hK2 => ?_)
        go_wp2_with fail
        refine (hHt.out _ hb4H.out t.right hoktH.out.right).mono ?_
        rintro e w5 ⟨rfl, hb5⟩
        have hk5 : Hid (Below W3.heap.size W3 w5) := Lib.hid (hk4.out.trans (hb5.mono hk4.out.size))
        clear hb5
        go_wp2
        refine hK2 _ _ ⟨⟨w5, hk5.out⟩, rfl⟩ ?_
        clear hK2 K2
        refine wpActs_step _ rfl (fun K3 hK3 => ?_)
        go_wp2
        refine hK3 _ _ ⟨⟨w5, hk5.out⟩, rfl⟩ ?_
        clear hK3 K3
        refine wpActs_step _ rfl (fun K4 hK4 => ?_)
        go_wp2
        refine hK4 _ _ ⟨⟨w5, hk5.out⟩, rfl⟩ ?_
        clear hK4 K4
        refine wpActs_nil ?_
        have c4 := (hX3.out.below hk5.out).at' (i := 4) rfl
        have hBr5 := Lib.hid (hBr3.out.trans (hk5.out.mono hBr3.out.size))
        have hB5 := Lib.hid (hb2H.out.trans (hBr5.out.mono hb2H.out.size))
        clear hX3 hk4 hk5 hb4H hbd4
        cases m1 : (((t.mark : Nat) : Int) != IntKind.u64.wrap (wrap64 (max (avH R t.left) (avH R t.right) + 1))) with
        | true =>
          have hb9 := hbdH.out
          rw [m1] at hb9
          have hfin := Lib.hid (hall.out hb9)
          clear hb9
          go_wp2
          go_ret
          rw [hvH.out, if_pos hfin.out]
          exact ⟨rfl, hB5.out⟩
        | false =>
          cases m2 : decide (wrap64 (avH R t.right + 1) < avH R t.left) with
          | true =>
            have hb9 := hbdH.out
            rw [m1, m2] at hb9
            have hfin := Lib.hid (hall.out hb9)
            clear hb9
            go_wp2
            go_ret
            rw [hvH.out, if_pos hfin.out]
            exact ⟨rfl, hB5.out⟩
          | false =>
            cases m3 : decide (wrap64 (avH R t.left + 1) < avH R t.right) with
            | true =>
              have hb9 := hbdH.out
              rw [m1, m2, m3] at hb9
              have hfin := Lib.hid (hall.out hb9)
              clear hb9
              go_wp2
              go_ret
              rw [hvH.out, if_pos hfin.out]
              exact ⟨rfl, hB5.out⟩
            | false =>
              have hb9 := hbdH.out
              rw [m1, m2, m3] at hb9
              have hfin := Lib.hid (hnx.out.trans hb9)
              clear hb9
              go_wp2
              go_roundw
              case rel => exact ⟨k + 1, by omega, by go_num, hBr5, hfin⟩
              case measure => simp [intOf]; omega
      · obtain rfl : k = L.length := by omega
        have hfin : Hid (L.any (avBad R) = false) := Lib.hid (by have := hpre.out; rw [List.take_length] at this; exact this)
        go_wp2
        go_ret
        rw [hvH.out, if_neg (by rw [hfin.out]; simp)]
        exact ⟨rfl, hb2H.out.trans (hbr.out.mono hb2H.out.size)⟩
  · have hc8 : c = 8 := by omega
    have dc : ((c : Int) != 0) = true := by rw [hc8]; rfl
    rw [if_pos hc0] at hv
    have hvH := Lib.hid hv
    clear hv hc0 hc9 hc8 h hsh
    go_enter Tryz.func168, Tryz.ntmps168
    go_wp2_with fail
    refine hCkH.out.mono ?_
    rintro e w1 ⟨rfl, hb1⟩
    have hb1H := Lib.hid hb1
    clear hb1 hCkH
    go_wp2
    go_ret
    rw [hvH.out]
    exact ⟨rfl, hb1H.out⟩
end
end Go.Proofs.YtijpmjaeanocpaaGreatDoor

set_option linter.unusedVariables false
set_option linter.unusedSimpArgs false
namespace Go.Proofs.YtijpmjaeanocpaaGreatDoor
open Go.RowKit Go.Shelf
section
variable {w w' : World} {s : Nat} {F : Nat → Prop} {R : Nat → Option (List Nat)} {H : List Nat} {P q most last G : Nat}
theorem avGood_one {R : Nat → Option (List Nat)} {x a b m : Nat} {nd : Nd} (hx : nodeG R x = nd) (ha : avH R nd.left = (a : Nat)) (hb : avH R nd.right = (b : Nat)) (hm : nd.mark = m) (h1 : m = max a b + 1) (h2 : a ≤ b + 1) (h3 : b ≤ a + 1) (s1 : a < 1000000) (s2 : b < 1000000) : avBad R x = false := by
  have q4 : wrap64 ((b : Int) + 1) = (b : Int) + 1 := IntWalk.wrap64_in _ (by omega)
  have q5 : wrap64 ((a : Int) + 1) = (a : Int) + 1 := IntWalk.wrap64_in _ (by omega)
  have q3 : max (a : Int) (b : Int) + 1 = ((m : Nat) : Int) := by omega
  have q6 : toU (wrap64 (max (a : Int) (b : Int) + 1)) = m := by rw [q3, toU_nat _ (by omega)]
  have b1 : avBad1 R x = false := by
    unfold avBad1
    rw [hx, ha, hb, q6, hm]
    exact bne_self_eq_false _
  have b2 : avBad2 R x = false := by
    unfold avBad2
    rw [hx, ha, hb, q4]
    exact decide_eq_false (by omega)
  have b3 : avBad3 R x = false := by
    unfold avBad3
    rw [hx, ha, hb, q5]
    exact decide_eq_false (by omega)
  unfold avBad
  rw [b1, b2, b3]
  rfl
theorem avGood {R : Nat → Option (List Nat)} (h0 : R 0 = none) : ∀ (t : BT), t.At R → t.Avl → t.size < 999999 → ∀ x ∈ t.nodes, avBad R x = false
  | .nil, _, _, _, x, hx => by simp [BT.nodes] at hx
  | .node y kx vx m k v l r, ht, ha, hs, x, hx => by
    have hl := ht.2.2.2.2.2.2.1
    have hr := ht.2.2.2.2.2.2.2
    obtain ⟨a1, a2, a3, al, ar⟩ := ha
    simp only [BT.size] at hs
    simp only [BT.nodes, List.mem_append, List.mem_cons] at hx
    have l1 := BT.hgt_le l
    have l2 := BT.hgt_le r
    rcases hx with hx | hx | hx
    · exact avGood h0 l hl al (by omega) x hx
    · subst hx
      exact avGood_one (nodeR_at ht.2.1).2 (BT.avH_at hl h0 al.mk (by omega)) (BT.avH_at hr h0 ar.mk (by omega)) rfl a1 a2 a3 (by omega) (by omega)
    · exact avGood h0 r hr ar (by omega) x hx
theorem tavCheck_at {N n : Nat} {t : BT} {l : List Pr} (h : TreeR N w s R n t l) (ha : t.Avl) : Calls Tryz.prog 168 #[.pointer (some ⟨s, 0, none⟩), .int .u64 (t.root : Nat)] w fun e w' => e = .returned (.int .i64 0) ∧ Below w.heap.size w w' := by
  have h1 := h.rd.le
  have h2 := h.sz
  have hf := avCheck_at h.rd h.sh t.root h.root_lt
  have hz : acheckR R n t.root = 0 := by
    unfold acheckR
    rw [BT.check_at h.at' (by rw [h.prs]; exact h.ris) h.nod (n := n) (by omega) (by omega), BT.inR_at h.at' (n := n) (by omega)]
    rw [if_neg (by simp), if_neg]
    rw [List.any_eq_true]
    rintro ⟨x, hx, hb⟩
    rw [avGood h.z t h.at' ha (by omega) x hx] at hb
    cases hb
  rw [hz] at hf
  exact hf
end
end Go.Proofs.YtijpmjaeanocpaaGreatDoor

set_option linter.unusedVariables false
set_option linter.unusedSimpArgs false
namespace Go.Proofs.YtijpmjaeanocpaaGreatDoor
open Go.RowKit Go.Shelf
section
variable {w w' : World} {s N : Nat} {R : Nat → Option (List Nat)} {n : Nat}
set_option maxHeartbeats 1000000 in
set_option maxRecDepth 100000 in
theorem rbGet_at (h : Rd N w s R n) (x : Nat) (hx : x < 18446744073709551616) (nd : Nd) (hnd : nodeG R x = nd) : Calls Tryz.prog 218 #[.pointer (some ⟨s, 0, none⟩), .int .u64 (x : Nat)] w fun e w' => e = .returned (.agg #[.int .u64 (nd.key : Nat), .int .u64 (nd.val : Nat), .int .u64 (nd.left : Nat), .int .u64 (nd.right : Nat), .int .u64 (nd.mark : Nat), .int .u64 (nd.size : Nat)]) ∧ Below w.heap.size w w' := by
  obtain ⟨z, hz⟩ : ∃ z, nodeE R x = z := ⟨_, rfl⟩
  have hG := Lib.hid (fun w' (hb : Below w.heap.size w w') => nget_lit (h.below hb) x hx nd hnd z hz)
  clear h hnd hz
  go_enter Tryz.func218, Tryz.ntmps218
  go_wp2_with fail
  obtain ⟨W0, hW0⟩ : ∃ W0, W0 = w.alloc (Obj.cells #[.int .u64 0, .int .u64 0, .int .u64 0, .int .u64 0, .int .u64 0, .int .u64 0] 118) := ⟨_, rfl⟩
  rw [← hW0]
  have hb0 : Below w.heap.size w W0 := by rw [hW0]; exact (Below.refl _ w).alloc (Nat.le_refl _) _
  have hbx0 : Box W0 w.heap.size 118 [.int .u64 0, .int .u64 0, .int .u64 0, .int .u64 0, .int .u64 0, .int .u64 0] := by
    rw [hW0]
    exact Box.new w 118 [.int .u64 0, .int .u64 0, .int .u64 0, .int .u64 0, .int .u64 0, .int .u64 0]
  have hb0H := Lib.hid hb0
  have hbx0H := Lib.hid hbx0
  clear hb0 hbx0 hW0
  refine (hG.out _ hb0H.out).mono ?_
  rintro e w1 ⟨rfl, hb1⟩
  have hb1H := Lib.hid (hb0H.out.trans (hb1.mono hb0H.out.size))
  have hbx1 := hbx0H.out.below hb1
  have c0 := hbx1.at' (i := 0) rfl
  have c1 := hbx1.at' (i := 1) rfl
  have c2 := hbx1.at' (i := 2) rfl
  have c3 := hbx1.at' (i := 3) rfl
  have c4 := hbx1.at' (i := 4) rfl
  have c5 := hbx1.at' (i := 5) rfl
  have hbx1H := Lib.hid hbx1
  have f0 := hbx1.free 0
  have f1 := hbx1.free 1
  have f2 := hbx1.free 2
  have f3 := hbx1.free 3
  have f4 := hbx1.free 4
  have f5 := hbx1.free 5
  have hz1 : w.heap.size ≤ w1.heap.size := hb1H.out.size
  have hl1 : w.heap.size < w1.heap.size := hbx1.lt
  clear hb1 hbx1 hG
  go_wp2
  refine bodyPost_ret (v := .agg #[.int .u64 (nd.key : Nat), .int .u64 (nd.val : Nat), .int .u64 (nd.left : Nat), .int .u64 (nd.right : Nat), .int .u64 (nd.mark : Nat), .int .u64 (nd.size : Nat)]) ?_ rfl ⟨rfl, (below_six hb1H.out (Nat.le_refl _) _ _ _ _ _ _).alloc (by simp; exact hz1) _⟩
  have hB := (hbx1H.out.six (.int .u64 (nd.key : Nat)) (.int .u64 (nd.val : Nat)) (.int .u64 (nd.left : Nat)) (.int .u64 (nd.right : Nat)) (.int .u64 (nd.mark : Nat)) (.int .u64 (nd.size : Nat))).alloc (Obj.cells #[Value.int IntKind.u64 (nd.key : Nat), Value.int IntKind.u64 (nd.val : Nat), Value.int IntKind.u64 (nd.left : Nat), Value.int IntKind.u64 (nd.right : Nat), Value.int IntKind.u64 (nd.mark : Nat), Value.int IntKind.u64 (nd.size : Nat)] 118)
  have k0 := hB.at' (i := 0) rfl
  have k1 := hB.at' (i := 1) rfl
  have k2 := hB.at' (i := 2) rfl
  have k3 := hB.at' (i := 3) rfl
  have k4 := hB.at' (i := 4) rfl
  have k5 := hB.at' (i := 5) rfl
  clear hB c0 c1 c2 c3 c4 c5 f0 f1 f2 f3 f4 f5
  simp [results, Tryz.f218, go_sem, k0, k1, k2, k3, k4, k5]
theorem and_one (m : Nat) (hm : m < 18446744073709551616) : (bits BinOp.and IntKind.u64 (m : Int) 1 == 1) = (m % 2 == 1) := by
  rw [show (1 : Int) = ((1 : Nat) : Int) from rfl, bits_and_u64_nat _ _ hm (by omega), Nat.and_one_is_mod]
  have h2 : m % 2 = 0 ∨ m % 2 = 1 := by omega
  rcases h2 with h | h <;> rw [h] <;> rfl
theorem or_one (b : Nat) (hb : 2 * b + 1 < 18446744073709551616) : bits BinOp.or IntKind.u64 ((2 * b : Nat) : Int) 1 = ((2 * b + 1 : Nat) : Int) := by
  rw [show (1 : Int) = ((1 : Nat) : Int) from rfl, bits_or_u64_nat _ _ (by omega) (by omega)]
  congr 1
  have := Nat.two_pow_add_eq_or_of_lt (i := 1) (b := 1) (by omega) b
  rw [Nat.pow_one] at this
  omega
theorem nd_field4 (nd : Nd) (W : World) : (Instr.field 118 (.agg #[.int .u64 (nd.key : Nat), .int .u64 (nd.val : Nat), .int .u64 (nd.left : Nat), .int .u64 (nd.right : Nat), .int .u64 (nd.mark : Nat), .int .u64 (nd.size : Nat)]) 4).run Tryz.prog W = .ok (.int .u64 (nd.mark : Nat)) W := by
  simp [Instr.field, run_underlying Tryz.underlying118, asAgg, go_sem]
set_option maxRecDepth 100000 in
theorem rbBlack_at (h : Rd N w s R n) (x : Nat) (hx : x < 18446744073709551616) : Calls Tryz.prog 214 #[.pointer (some ⟨s, 0, none⟩), .int .u64 (x : Nat)] w fun e w' => e = .returned (.int .u64 (rbB R x : Nat)) ∧ Below w.heap.size w w' := by
  obtain ⟨nd, hnd⟩ : ∃ nd, nodeG R x = nd := ⟨_, rfl⟩
  have hG := Lib.hid (rbGet_at h x hx nd hnd)
  have hv : Hid (rbB R x = nd.mark / 2) := Lib.hid (by unfold rbB; rw [hnd])
  have hok := h.nodeG x
  rw [hnd] at hok
  have hmk := hok.mark
  have hfd := nd_field4 nd
  clear h hnd hok
  go_enter Tryz.func214, Tryz.ntmps214
  go_wp2_with fail
  refine hG.out.mono ?_
  rintro e w1 ⟨rfl, hb⟩
  have hbH := Lib.hid hb
  clear hb hG
  go_wp2
  go_ret
  rw [hv.out]
  exact ⟨rfl, hbH.out⟩
set_option maxRecDepth 100000 in
theorem rbRed_at (h : Rd N w s R n) (x : Nat) (hx : x < 18446744073709551616) : Calls Tryz.prog 217 #[.pointer (some ⟨s, 0, none⟩), .int .u64 (x : Nat)] w fun e w' => e = .returned (.bool (rbRed R x)) ∧ Below w.heap.size w w' := by
  obtain ⟨nd, hnd⟩ : ∃ nd, nodeG R x = nd := ⟨_, rfl⟩
  have hG := Lib.hid (rbGet_at h x hx nd hnd)
  have hv : Hid (rbRed R x = (nd.mark % 2 == 1)) := Lib.hid (by unfold rbRed; rw [hnd])
  have hok := h.nodeG x
  rw [hnd] at hok
  have hmk := hok.mark
  have hfd := nd_field4 nd
  clear h hnd hok
  go_enter Tryz.func217, Tryz.ntmps217
  go_wp2_with fail
  refine hG.out.mono ?_
  rintro e w1 ⟨rfl, hb⟩
  have hbH := Lib.hid hb
  clear hb hG
  go_wp2
  go_ret
  rw [hv.out]
  exact ⟨by rw [← and_one nd.mark hmk]; rfl, hbH.out⟩
end
end Go.Proofs.YtijpmjaeanocpaaGreatDoor

set_option linter.unusedVariables false
set_option linter.unusedSimpArgs false
namespace Go.Proofs.YtijpmjaeanocpaaGreatDoor
open Go.RowKit Go.Shelf
section
variable {w w' : World} {s : Nat} {F : Nat → Prop} {R : Nat → Option (List Nat)} {H : List Nat} {P q most last G : Nat}
set_option maxHeartbeats 4000000 in
set_option maxRecDepth 100000 in
theorem rbPut_at (h : StoreIs w s F R H P q most last G) (x l r : Nat) (hx : x < 18446744073709551616) (hl : l < 18446744073709551616) (hr : r < 18446744073709551616) (red : Bool) :
    Calls Tryz.prog 216 #[.pointer (some ⟨s, 0, none⟩), .int .u64 (x : Nat), .int .u64 (l : Nat), .int .u64 (r : Nat), .bool red] w fun e w' => e = .returned (.int .u64 (x : Nat)) ∧ StoreIs w' s F (rbPut R x l r red) H P q most last G ∧ Turn w F w' F := by
  obtain ⟨n, hrd, _⟩ := h.rd
  obtain ⟨nd, hnd⟩ : ∃ nd, nodeG R x = nd := ⟨_, rfl⟩
  have hHs := Lib.hid h
  have hG := Lib.hid (rbGet_at hrd x hx nd hnd)
  have hok0 := Lib.hid (hnd ▸ hrd.nodeG x)
  have hFl := Lib.hid (fun b (hf : F b) => h.lt hf)
  have hBk := Lib.hid (fun W (hb : Below w.heap.size w W) => rbBlack_at (hrd.below hb) l hl)
  have hB1 := Lib.hid (fun W (hb : Below w.heap.size w W) => size_at (hrd.below hb) l hl)
  have hB2 := Lib.hid (fun W (hb : Below w.heap.size w W) => size_at (hrd.below hb) r hr)
  have hmk := (hrd.nodeG l).mark
  have hbl : rbB R l < 9223372036854775808 := by unfold rbB; omega
  obtain ⟨bl, hble⟩ : ∃ bl, bl = rbB R l := ⟨_, rfl⟩
  rw [← hble] at hBk hbl
  have hbleH := Lib.hid hble
  have hndH := Lib.hid hnd
  clear h hrd hmk hble hnd
  go_enter Tryz.func216, Tryz.ntmps216
  go_wp2_with fail
  refine hG.out.mono ?_
  rintro e w1 ⟨rfl, hb1⟩
  have hb1H := Lib.hid hb1
  have hz1 := hb1.size
  clear hb1 hG
  go_wp2_with fail
  obtain ⟨W2, hW2⟩ : ∃ W, W = w1.alloc (Obj.cells #[.int .u64 (nd.key : Nat), .int .u64 (nd.val : Nat), .int .u64 (l : Nat), .int .u64 (r : Nat), .int .u64 (nd.mark : Nat), .int .u64 (nd.size : Nat)] 118) := ⟨_, rfl⟩
  obtain ⟨b2, hb2⟩ : ∃ b, b = w1.heap.size := ⟨_, rfl⟩
  have hX2H : Hid (Box W2 b2 118 [.int .u64 (nd.key : Nat), .int .u64 (nd.val : Nat), .int .u64 (l : Nat), .int .u64 (r : Nat), .int .u64 (nd.mark : Nat), .int .u64 (nd.size : Nat)]) := Lib.hid (by rw [hW2, hb2]; exact Box.new w1 118 [.int .u64 (nd.key : Nat), .int .u64 (nd.val : Nat), .int .u64 (l : Nat), .int .u64 (r : Nat), .int .u64 (nd.mark : Nat), .int .u64 (nd.size : Nat)])
  have hB2H : Hid (Below w.heap.size w W2) := Lib.hid (by rw [hW2]; exact hb1H.out.alloc hz1 _)
  have hFb : ¬ F b2 := fun hf => by have := hFl.out b2 hf; omega
  have hbw : w.heap.size ≤ b2 := by omega
  rw [← hW2, ← hb2]
  clear hW2 hb2 hz1 hb1H
  refine (hBk.out _ hB2H.out).mono ?_
  rintro e W3 ⟨rfl, hb⟩
  have hB3H := Lib.hid (hB2H.out.trans (hb.mono hB2H.out.size))
  have hX3H := Lib.hid (hX2H.out.below hb)
  have c4 := hX3H.out.at' (i := 4) rfl
  have f4 := hX3H.out.free 4
  clear hb hB2H hX2H hBk
  cases red with
  | true =>
    have hmkv : (bits BinOp.or IntKind.u64 ((bl : Int) * 2) 1) = ((2 * bl + 1 : Nat) : Int) := by
      rw [show (bl : Int) * 2 = ((2 * bl : Nat) : Int) by omega]
      exact or_one bl (by omega)
    have hmkr : Hid (rbMark (rbB R l) true = 2 * bl + 1) := Lib.hid (by rw [← hbleH.out]; rfl)
    have hmkl : 2 * bl + 1 < 18446744073709551616 := by omega
    have hmkvH := Lib.hid hmkv
    clear hmkv
    go_wp2_with fail
    rw [hmkvH.out]
    clear hmkvH
    generalize 2 * bl + 1 = mk at *
    have hmkrH := hmkr
    clear c4 f4
    obtain ⟨W4, hW4⟩ : ∃ W, W = (W3.setCell ⟨b2, 4, none⟩ (.int .u64 ((bl : Int) * 2))).setCell ⟨b2, 4, none⟩ (.int .u64 (mk : Nat)) := ⟨_, rfl⟩
    have hX4H : Hid (Box W4 b2 118 [.int .u64 (nd.key : Nat), .int .u64 (nd.val : Nat), .int .u64 (l : Nat), .int .u64 (r : Nat), .int .u64 (mk : Nat), .int .u64 (nd.size : Nat)]) := Lib.hid (by rw [hW4]; exact (hX3H.out.set 4 _).set 4 _)
    have hB4H : Hid (Below w.heap.size w W4) := Lib.hid (by rw [hW4]; exact (hB3H.out.setCell (p := ⟨b2, 4, none⟩) hbw _).setCell (p := ⟨b2, 4, none⟩) hbw _)
    rw [← hW4]
    clear hW4
    refine (hB1.out _ hB4H.out).mono ?_
    rintro e W5 ⟨rfl, hb⟩
    have hB5H := Lib.hid (hB4H.out.trans (hb.mono hB4H.out.size))
    have hX5H := Lib.hid (hX4H.out.below hb)
    clear hb
    go_wp2_with fail
    refine (hB2.out _ hB5H.out).mono ?_
    rintro e W6 ⟨rfl, hb⟩
    have hB6H := Lib.hid (hB5H.out.trans (hb.mono hB5H.out.size))
    have hX6H := Lib.hid (hX5H.out.below hb)
    have c0 := hX6H.out.at' (i := 0) rfl
    have c1 := hX6H.out.at' (i := 1) rfl
    have c2 := hX6H.out.at' (i := 2) rfl
    have c3 := hX6H.out.at' (i := 3) rfl
    have c4 := hX6H.out.at' (i := 4) rfl
    have c5 := hX6H.out.at' (i := 5) rfl
    have f5 := hX6H.out.free 5
    clear hb
    go_wp2_with fail
    rw [wrapU]
    obtain ⟨sz, hsz⟩ : ∃ sz, sz = toU (wrap64 (wrap64 (tsizeR R l + tsizeR R r) + 1)) := ⟨_, rfl⟩
    rw [← hsz]
    have hszl : sz < 18446744073709551616 := hsz ▸ toU_lt _
    have hwn : Hid (rbN R x l r true = ⟨nd.key, nd.val, l, r, mk, sz⟩) := Lib.hid (by unfold rbN; rw [hndH.out, hmkrH.out, hsz])
    clear hsz c0 c1 c2 c3 c4 c5 f5
    obtain ⟨W7, hW7⟩ : ∃ W, W = W6.setCell ⟨b2, 5, none⟩ (.int .u64 (sz : Nat)) := ⟨_, rfl⟩
    have hB7H : Hid (Below w.heap.size w W7) := Lib.hid (by rw [hW7]; exact hB6H.out.setCell (p := ⟨b2, 5, none⟩) hbw _)
    rw [← hW7]
    clear hW7
    have hPut := nput_any (hHs.out.below hB7H.out) x hx ⟨nd.key, nd.val, l, r, mk, sz⟩ ⟨hok0.out.key, hok0.out.val, hl, hr, hmkl, hszl⟩
    unfold Nd.v at hPut
    have hPutH := Lib.hid hPut
    clear hPut
    refine hPutH.out.mono ?_
    rintro e W8 ⟨rfl, hS8, hT8⟩
    have hS8H : Hid (StoreIs W8 s F (rbPut R x l r true) H P q most last G) := Lib.hid (by
      unfold rbPut putN
      rw [hwn.out]
      exact hS8)
    have hT8H := Lib.hid ((Turn.below (F := F) hB7H.out).trans hT8)
    clear hS8 hT8 hPutH
    go_wp2
    go_ret
    exact ⟨rfl, hS8H.out, hT8H.out⟩
  | false =>
    have hmkv : (IntKind.u64.wrap ((bl : Int) * 2 + 2)) = (((2 * bl + 2) % 18446744073709551616 : Nat) : Int) := by
      rw [wrapU]
      unfold toU
      omega
    have hmkr : Hid (rbMark (rbB R l) false = (2 * bl + 2) % 18446744073709551616) := Lib.hid (by rw [← hbleH.out]; rfl)
    have hmkl : (2 * bl + 2) % 18446744073709551616 < 18446744073709551616 := by omega
    have hmkvH := Lib.hid hmkv
    clear hmkv
    go_wp2_with fail
    rw [hmkvH.out]
    clear hmkvH
    generalize (2 * bl + 2) % 18446744073709551616 = mk at *
    have hmkrH := hmkr
    clear c4 f4
    obtain ⟨W4, hW4⟩ : ∃ W, W = (W3.setCell ⟨b2, 4, none⟩ (.int .u64 ((bl : Int) * 2))).setCell ⟨b2, 4, none⟩ (.int .u64 (mk : Nat)) := ⟨_, rfl⟩
    have hX4H : Hid (Box W4 b2 118 [.int .u64 (nd.key : Nat), .int .u64 (nd.val : Nat), .int .u64 (l : Nat), .int .u64 (r : Nat), .int .u64 (mk : Nat), .int .u64 (nd.size : Nat)]) := Lib.hid (by rw [hW4]; exact (hX3H.out.set 4 _).set 4 _)
    have hB4H : Hid (Below w.heap.size w W4) := Lib.hid (by rw [hW4]; exact (hB3H.out.setCell (p := ⟨b2, 4, none⟩) hbw _).setCell (p := ⟨b2, 4, none⟩) hbw _)
    rw [← hW4]
    clear hW4
    refine (hB1.out _ hB4H.out).mono ?_
    rintro e W5 ⟨rfl, hb⟩
    have hB5H := Lib.hid (hB4H.out.trans (hb.mono hB4H.out.size))
    have hX5H := Lib.hid (hX4H.out.below hb)
    clear hb
    go_wp2_with fail
    refine (hB2.out _ hB5H.out).mono ?_
    rintro e W6 ⟨rfl, hb⟩
    have hB6H := Lib.hid (hB5H.out.trans (hb.mono hB5H.out.size))
    have hX6H := Lib.hid (hX5H.out.below hb)
    have c0 := hX6H.out.at' (i := 0) rfl
    have c1 := hX6H.out.at' (i := 1) rfl
    have c2 := hX6H.out.at' (i := 2) rfl
    have c3 := hX6H.out.at' (i := 3) rfl
    have c4 := hX6H.out.at' (i := 4) rfl
    have c5 := hX6H.out.at' (i := 5) rfl
    have f5 := hX6H.out.free 5
    clear hb
    go_wp2_with fail
    rw [wrapU]
    obtain ⟨sz, hsz⟩ : ∃ sz, sz = toU (wrap64 (wrap64 (tsizeR R l + tsizeR R r) + 1)) := ⟨_, rfl⟩
    rw [← hsz]
    have hszl : sz < 18446744073709551616 := hsz ▸ toU_lt _
    have hwn : Hid (rbN R x l r false = ⟨nd.key, nd.val, l, r, mk, sz⟩) := Lib.hid (by unfold rbN; rw [hndH.out, hmkrH.out, hsz])
    clear hsz c0 c1 c2 c3 c4 c5 f5
    obtain ⟨W7, hW7⟩ : ∃ W, W = W6.setCell ⟨b2, 5, none⟩ (.int .u64 (sz : Nat)) := ⟨_, rfl⟩
    have hB7H : Hid (Below w.heap.size w W7) := Lib.hid (by rw [hW7]; exact hB6H.out.setCell (p := ⟨b2, 5, none⟩) hbw _)
    rw [← hW7]
    clear hW7
    have hPut := nput_any (hHs.out.below hB7H.out) x hx ⟨nd.key, nd.val, l, r, mk, sz⟩ ⟨hok0.out.key, hok0.out.val, hl, hr, hmkl, hszl⟩
    unfold Nd.v at hPut
    have hPutH := Lib.hid hPut
    clear hPut
    refine hPutH.out.mono ?_
    rintro e W8 ⟨rfl, hS8, hT8⟩
    have hS8H : Hid (StoreIs W8 s F (rbPut R x l r false) H P q most last G) := Lib.hid (by
      unfold rbPut putN
      rw [hwn.out]
      exact hS8)
    have hT8H := Lib.hid ((Turn.below (F := F) hB7H.out).trans hT8)
    clear hS8 hT8 hPutH
    go_wp2
    go_ret
    exact ⟨rfl, hS8H.out, hT8H.out⟩
end
end Go.Proofs.YtijpmjaeanocpaaGreatDoor

set_option linter.unusedVariables false
set_option linter.unusedSimpArgs false
namespace Go.Proofs.YtijpmjaeanocpaaGreatDoor
open Go.RowKit Go.Shelf
set_option maxRecDepth 100000 in
theorem rbPick_at (a b bx : Nat) (tn : Bool) (w : World) (hc : w.cell? ⟨bx, 1, none⟩ = some (.bool tn)) :
    Calls Tryz.prog 265 #[.int .u64 (a : Nat), .int .u64 (b : Nat), .pointer (some ⟨bx, 0, none⟩)] w fun e w' => e = .returned (.tuple #[.int .u64 ((if tn then (b, a) else (a, b)).1 : Nat), .int .u64 ((if tn then (b, a) else (a, b)).2 : Nat)]) ∧ w = w' := by
  cases tn with
  | false =>
    go_enter Tryz.func265, Tryz.ntmps265
    go_wp2
    go_ret2
    exact ⟨rfl, rfl⟩
  | true =>
    go_enter Tryz.func265, Tryz.ntmps265
    go_wp2
    go_ret2
    exact ⟨rfl, rfl⟩
section
variable {w w' : World} {s N : Nat} {R : Nat → Option (List Nat)} {n : Nat}
set_option maxHeartbeats 2000000 in
set_option maxRecDepth 100000 in
theorem rbSides_at (h : Rd N w s R n) (tn : Bool) (x : Nat) (hx : x < 18446744073709551616) :
    Calls Tryz.prog 237 #[.agg #[.pointer (some ⟨s, 0, none⟩), .bool tn], .int .u64 (x : Nat)] w fun e w' => e = .returned (.tuple #[.int .u64 ((rbSides R tn x).1 : Nat), .int .u64 ((rbSides R tn x).2 : Nat)]) ∧ Below w.heap.size w w' := by
  have hmf : ∀ (fn : Fn) (first cap : Array Value) (w : World), (Instr.makeFunc fn first cap).run Tryz.prog w = .ok (.func fn first cap) w := fun _ _ _ _ => rfl
  obtain ⟨nd, hnd⟩ : ∃ nd, nodeG R x = nd := ⟨_, rfl⟩
  have hv : Hid (rbSides R tn x = if tn then (nd.right, nd.left) else (nd.left, nd.right)) := Lib.hid (by unfold rbSides; rw [hnd])
  have hG := Lib.hid (fun W (hb : Below w.heap.size w W) => rbGet_at (h.below hb) x hx nd hnd)
  have hPk := fun W => rbPick_at nd.left nd.right w.heap.size tn W
  generalize (if tn then (nd.right, nd.left) else (nd.left, nd.right)) = oo at *
  obtain ⟨pa, pb⟩ := oo
  have hPkH := Lib.hid hPk
  clear hPk
  have hX0 := Box.new w 301 [.pointer (some ⟨s, 0, none⟩), .bool tn]
  obtain ⟨W0, hW0⟩ : ∃ W, W = w.alloc (Obj.cells #[.pointer (some ⟨s, 0, none⟩), .bool tn] 301) := ⟨_, rfl⟩
  have hb0 : Below w.heap.size w W0 := by rw [hW0]; exact (Below.refl _ w).alloc (Nat.le_refl _) _
  rw [← hW0] at hX0
  have c0 := hX0.at' (i := 0) rfl
  have hX0H := Lib.hid hX0
  have hb0H := Lib.hid hb0
  have hW0H := Lib.hid hW0
  clear h hnd hX0 hb0 hW0
  go_enter Tryz.func237, Tryz.ntmps237
  go_wp2_with fail
  rw [← hW0H.out]
  go_wp2_with fail
  refine (hG.out _ hb0H.out).mono ?_
  rintro e w1 ⟨rfl, hb1⟩
  have hb1H := Lib.hid (hb0H.out.trans (hb1.mono hb0H.out.size))
  have hz1 := hb1H.out.size
  have hX1H := Lib.hid (hX0H.out.below hb1)
  clear hb1 hG c0
  go_wp2_with fail
  have hX2 := hX1H.out.alloc (Obj.cells #[.int .u64 (nd.key : Nat), .int .u64 (nd.val : Nat), .int .u64 (nd.left : Nat), .int .u64 (nd.right : Nat), .int .u64 (nd.mark : Nat), .int .u64 (nd.size : Nat)] 118)
  refine (hPkH.out _ (hX2.at' (i := 1) rfl)).mono ?_
  rintro e w2 ⟨rfl, rfl⟩
  clear hX2
  go_wp2
  go_ret2
  rw [hv.out]
  exact ⟨rfl, hb1H.out.alloc hz1 _⟩
end
section
variable {w w' : World} {s : Nat} {F : Nat → Prop} {R : Nat → Option (List Nat)} {H : List Nat} {P q most last G : Nat}
set_option maxHeartbeats 2000000 in
set_option maxRecDepth 100000 in
theorem rbPutT_at (h : StoreIs w s F R H P q most last G) (tn : Bool) (x other own : Nat) (hx : x < 18446744073709551616) (hl : other < 18446744073709551616) (hr : own < 18446744073709551616) (red : Bool) :
    Calls Tryz.prog 238 #[.agg #[.pointer (some ⟨s, 0, none⟩), .bool tn], .int .u64 (x : Nat), .int .u64 (other : Nat), .int .u64 (own : Nat), .bool red] w fun e w' => e = .returned (.int .u64 (x : Nat)) ∧ StoreIs w' s F (rbPutT R tn x other own red) H P q most last G ∧ Turn w F w' F := by
  have hX0 := Box.new w 301 [.pointer (some ⟨s, 0, none⟩), .bool tn]
  obtain ⟨W0, hW0⟩ : ∃ W, W = w.alloc (Obj.cells #[.pointer (some ⟨s, 0, none⟩), .bool tn] 301) := ⟨_, rfl⟩
  have hb0 : Below w.heap.size w W0 := by rw [hW0]; exact (Below.refl _ w).alloc (Nat.le_refl _) _
  rw [← hW0] at hX0
  have c0 := hX0.at' (i := 0) rfl
  have c1 := hX0.at' (i := 1) rfl
  have hb0H := Lib.hid hb0
  have hW0H := Lib.hid hW0
  have hS := Lib.hid (h.below hb0)
  clear h hX0 hb0 hW0
  cases tn with
  | false =>
    have hP := Lib.hid (rbPut_at hS.out x other own hx hl hr red)
    clear hS
    go_enter Tryz.func238, Tryz.ntmps238
    go_wp2_with fail
    rw [← hW0H.out]
    go_wp2_with fail
    refine hP.out.mono ?_
    rintro e w1 ⟨rfl, hS1, hT1⟩
    have hS1H := Lib.hid hS1
    have hT1H := Lib.hid ((Turn.below (F := F) hb0H.out).trans hT1)
    clear hS1 hT1 hP
    go_wp2
    go_ret
    exact ⟨rfl, hS1H.out, hT1H.out⟩
  | true =>
    have hP := Lib.hid (rbPut_at hS.out x own other hx hr hl red)
    clear hS
    go_enter Tryz.func238, Tryz.ntmps238
    go_wp2_with fail
    rw [← hW0H.out]
    go_wp2_with fail
    refine hP.out.mono ?_
    rintro e w1 ⟨rfl, hS1, hT1⟩
    have hS1H := Lib.hid hS1
    have hT1H := Lib.hid ((Turn.below (F := F) hb0H.out).trans hT1)
    clear hS1 hT1 hP
    go_wp2
    go_ret
    exact ⟨rfl, hS1H.out, hT1H.out⟩
end
end Go.Proofs.YtijpmjaeanocpaaGreatDoor

set_option linter.unusedVariables false
set_option linter.unusedSimpArgs false
namespace Go.Proofs.YtijpmjaeanocpaaGreatDoor
open Go.RowKit Go.Shelf
theorem rbSides_lt {N n s : Nat} {w : World} {R : Nat → Option (List Nat)} (h : Rd N w s R n) (tn : Bool) (x : Nat) : (rbSides R tn x).1 < 18446744073709551616 ∧ (rbSides R tn x).2 < 18446744073709551616 := by
  have := h.nodeG x
  unfold rbSides
  cases tn
  · exact ⟨this.left, this.right⟩
  · exact ⟨this.right, this.left⟩
def rbStep2 (tn : Bool) (R1 : Nat → Option (List Nat)) (t ot y : Nat) : (Nat → Option (List Nat)) × Nat :=
  if rbRed R1 y = false then (R1, t) else if rbRed R1 (rbSides R1 tn y).2 = false then (R1, t)
  else (rbPutT (rbPutT (rbPutT R1 tn (rbSides R1 tn y).2 (rbSides R1 tn (rbSides R1 tn y).2).1 (rbSides R1 tn (rbSides R1 tn y).2).2 false) tn t ot (rbSides R1 tn y).1 false) tn y t (rbSides R1 tn y).2 true, y)
def rbStep (tn : Bool) (t ot : Nat) (is : Bool) (p : (Nat → Option (List Nat)) × Nat) : (Nat → Option (List Nat)) × Nat :=
  if is = true then (rbPutT p.1 tn t ot p.2 is, t) else rbStep2 tn (rbPutT p.1 tn t ot p.2 is) t ot p.2
theorem rbJoin_succ (tn : Bool) (m low f : Nat) (R : Nat → Option (List Nat)) (t : Nat) : rbJoin tn m low (f + 1) R t = if rbRed R t = false ∧ rbB R t = rbB R low then (rbPutT R tn m t low true, m) else rbStep tn t (rbSides R tn t).1 (rbRed R t) (rbJoin tn m low f R (rbSides R tn t).2) := by
  rw [rbJoin]
  unfold rbStep rbStep2
  simp only
  generalize rbJoin tn m low f R (rbSides R tn t).2 = p
  cases rbRed R t <;> simp
section
variable {s : Nat} {F : Nat → Prop} {H : List Nat} {P q most last G : Nat}
set_option maxHeartbeats 8000000 in
set_option maxRecDepth 100000 in
theorem rbJoin_at (tn : Bool) (m low : Nat) (hm : m < 18446744073709551616) (hlow : low < 18446744073709551616) : ∀ (f : Nat) (w : World) (R : Nat → Option (List Nat)) (t : Nat), f ≤ 200 → t < 18446744073709551616 → StoreIs w s F R H P q most last G →
    Calls Tryz.prog 236 #[.agg #[.pointer (some ⟨s, 0, none⟩), .bool tn], .int .u64 (t : Nat), .int .u64 (m : Nat), .int .u64 (low : Nat), .int .i64 ((200 - f : Nat) : Int)] w fun e w' => e = .returned (.int .u64 ((rbJoin tn m low f R t).2 : Nat)) ∧ (rbJoin tn m low f R t).2 < 18446744073709551616 ∧ StoreIs w' s F (rbJoin tn m low f R t).1 H P q most last G ∧ Turn w F w' F
  | 0, w, R, t, hf, ht, h => by
    have hmo : Tryz.prog.follows .mixedOrders = true := by kernel_rfl
    have hX0 := Box.new w 301 [.pointer (some ⟨s, 0, none⟩), .bool tn]
    obtain ⟨W0, hW0⟩ : ∃ W, W = w.alloc (Obj.cells #[.pointer (some ⟨s, 0, none⟩), .bool tn] 301) := ⟨_, rfl⟩
    have hb0 : Below w.heap.size w W0 := by rw [hW0]; exact (Below.refl _ w).alloc (Nat.le_refl _) _
    rw [← hW0] at hX0
    have hFb0 : ¬ F w.heap.size := fun hf => by have := h.lt hf; omega
    have hS0 := h.below hb0
    obtain ⟨n0, hr0, _⟩ := hS0.rd
    have hX0H := Lib.hid hX0
    have hT0H : Hid (Turn w F W0 F) := Lib.hid (Turn.below hb0)
    have hW0H := Lib.hid hW0
    have hS0H := Lib.hid hS0
    have hr0H := Lib.hid hr0
    clear h hX0 hb0 hW0 hS0 hr0
    have hvH : Hid (rbJoin tn m low 0 R t = (rbPutT R tn m t low true, m)) := Lib.hid rfl
    show Calls Tryz.prog 236 #[.agg #[.pointer (some ⟨s, 0, none⟩), .bool tn], .int .u64 (t : Nat), .int .u64 (m : Nat), .int .u64 (low : Nat), .int .i64 200] w _
    go_enter Tryz.func236, Tryz.ntmps236
    go_wp2_with fail
    rw [← hW0H.out]
    have x0 := fun X : Bel W0 => X.cell (hX0H.out.at' (i := 0) rfl)
    have x1 := fun X : Bel W0 => X.cell (hX0H.out.at' (i := 1) rfl)
    refine wp_region_calm (by kernel_rfl) (by kernel_rfl) ?_
    repeat (go_big_quiet_step (fail))
    refine wpQuiet_nil ?_
    rintro _ ⟨X, rfl⟩
    have hbX := Lib.hid X.h
    generalize X.W = W1 at *
    clear x0 x1
    have hX1H := Lib.hid (hX0H.out.below hbX.out)
    have hS1H := Lib.hid (hS0H.out.below hbX.out)
    have hT1H := Lib.hid (hT0H.out.trans (Turn.below (F := F) hbX.out))
    clear hX0H hS0H hT0H hr0H hbX
    have c0 := hX1H.out.at' (i := 0) rfl
    have c1 := hX1H.out.at' (i := 1) rfl
    have hP := Lib.hid (rbPutT_at hS1H.out tn m t low hm ht hlow true)
    go_wp2_with fail
    refine hP.out.mono ?_
    rintro e W2 ⟨rfl, hS, hT⟩
    have hX2H := Lib.hid (hX1H.out.turn hT hFb0)
    have hT2H := Lib.hid (hT1H.out.trans hT)
    have hS2H := Lib.hid hS
    clear hS hT hP c0 c1 hX1H hT1H hS1H
    go_wp2
    go_ret
    rw [hvH.out]
    exact ⟨rfl, hm, hS2H.out, hT2H.out⟩
  | f + 1, w, R, t, hf, ht, h => by
    have hmo : Tryz.prog.follows .mixedOrders = true := by kernel_rfl
    have hX0 := Box.new w 301 [.pointer (some ⟨s, 0, none⟩), .bool tn]
    obtain ⟨W0, hW0⟩ : ∃ W, W = w.alloc (Obj.cells #[.pointer (some ⟨s, 0, none⟩), .bool tn] 301) := ⟨_, rfl⟩
    have hb0 : Below w.heap.size w W0 := by rw [hW0]; exact (Below.refl _ w).alloc (Nat.le_refl _) _
    rw [← hW0] at hX0
    have hFb0 : ¬ F w.heap.size := fun hf => by have := h.lt hf; omega
    have hS0 := h.below hb0
    obtain ⟨n0, hr0, _⟩ := hS0.rd
    have hX0H := Lib.hid hX0
    have hT0H : Hid (Turn w F W0 F) := Lib.hid (Turn.below hb0)
    have hW0H := Lib.hid hW0
    have hS0H := Lib.hid hS0
    have hr0H := Lib.hid hr0
    have hdn : Hid (((200 - f : Nat) : Int) = ((200 - (f + 1) : Nat) : Int) + 1) := Lib.hid (by omega)
    have hd0 : (((200 - (f + 1) : Nat) : Int) == 200) = false := by simp; omega
    obtain ⟨d, hd⟩ : ∃ d, d = 200 - (f + 1) := ⟨_, rfl⟩
    rw [← hd] at hdn hd0 ⊢
    have hdl : d < 200 := by omega
    clear hd
    have ih := fun w R t => rbJoin_at tn m low hm hlow f w R t
    have hv := rbJoin_succ tn m low f R t
    have hq1 := fun X : Bel W0 => rbRed_at (hr0.below X.h) t ht
    have hq2 := fun X : Bel W0 => rbBlack_at (hr0.below X.h) t ht
    have hq3 := fun X : Bel W0 => rbBlack_at (hr0.below X.h) low hlow
    obtain ⟨oo, ho⟩ : ∃ p, rbSides R tn t = p := ⟨_, rfl⟩
    have hol := rbSides_lt hr0 tn t
    rw [ho] at hol hv
    obtain ⟨ot, ow⟩ := oo
    simp only at hol hv
    obtain ⟨hot, how⟩ := hol
    have hoH := Lib.hid ho
    clear h hX0 hb0 hW0 hS0 hr0 ho
    obtain ⟨b1, hb1⟩ : ∃ b, rbB R t = b := ⟨_, rfl⟩
    obtain ⟨b2, hb2⟩ : ∃ b, rbB R low = b := ⟨_, rfl⟩
    simp only [hb1] at hq2
    simp only [hb2] at hq3
    rw [hb1, hb2] at hv
    clear hb1 hb2
    cases his : rbRed R t with
    | true =>
      have hc : ¬ (rbRed R t = false ∧ b1 = b2) := fun h => by rw [his] at h; cases h.1
      rw [if_neg hc, his] at hv
      simp only [his] at hq1
      have hisH := Lib.hid his
      clear his hc
      go_enter Tryz.func236, Tryz.ntmps236
      go_wp2_with fail
      rw [← hW0H.out]
      have x0 := fun X : Bel W0 => X.cell (hX0H.out.at' (i := 0) rfl)
      have x1 := fun X : Bel W0 => X.cell (hX0H.out.at' (i := 1) rfl)
      refine wp_region_calm (by kernel_rfl) (by kernel_rfl) ?_
      repeat (go_big_quiet_step ((first | (go_at_call 217; exact calls_calm (hq1 _)) | (go_at_call 214; exact calls_calm (hq2 _)) | (go_at_call 214; exact calls_calm (hq3 _)))))
      refine wpQuiet_nil ?_
      rintro _ ⟨X, rfl⟩
      have hbX := Lib.hid X.h
      generalize X.W = W1 at *
      clear x0 x1
      have hX1H := Lib.hid (hX0H.out.below hbX.out)
      have hS1H := Lib.hid (hS0H.out.below hbX.out)
      have hT1H := Lib.hid (hT0H.out.trans (Turn.below (F := F) hbX.out))
      clear hX0H hS0H hT0H hr0H hbX
      clear hq1 hq2 hq3
      obtain ⟨nr1, hr1, _⟩ := hS1H.out.rd
      have hr1H := Lib.hid hr1
      clear hr1
      have c0 := hX1H.out.at' (i := 0) rfl
      have c1 := hX1H.out.at' (i := 1) rfl
      have hQ := Lib.hid (by have := rbSides_at hr1H.out tn t ht; rw [hoH.out] at this; exact this)
      go_wp2_with fail
      refine hQ.out.mono ?_
      rintro e W2 ⟨rfl, hb⟩
      have hX2H := Lib.hid (hX1H.out.below hb)
      have hS2H := Lib.hid (hS1H.out.below hb)
      have hT2H := Lib.hid (hT1H.out.trans (Turn.below (F := F) hb))
      clear hb hQ c0 c1 hX1H hS1H hT1H
      clear hr1H
      obtain ⟨nr2, hr2, _⟩ := hS2H.out.rd
      have hr2H := Lib.hid hr2
      clear hr2
      have c0 := hX2H.out.at' (i := 0) rfl
      have c1 := hX2H.out.at' (i := 1) rfl
      have hQ := Lib.hid (by have := rbRed_at hr2H.out t ht; rw [hisH.out] at this; exact this)
      go_wp2_with fail
      refine hQ.out.mono ?_
      rintro e W3 ⟨rfl, hb⟩
      have hX3H := Lib.hid (hX2H.out.below hb)
      have hS3H := Lib.hid (hS2H.out.below hb)
      have hT3H := Lib.hid (hT2H.out.trans (Turn.below (F := F) hb))
      clear hb hQ c0 c1 hX2H hS2H hT2H
      clear hr2H
      have c0 := hX3H.out.at' (i := 0) rfl
      have c1 := hX3H.out.at' (i := 1) rfl
      have hih := ih W3 R ow (by omega) how hS3H.out
      rw [hdn.out] at hih
      generalize rbJoin tn m low f R ow = p at *
      obtain ⟨Ra, y⟩ := p
      simp only at hih hv
      have hihH := Lib.hid hih
      have hvH := Lib.hid hv
      clear hih hv
      go_wp2_with fail
      refine hihH.out.mono ?_
      rintro e W4 ⟨rfl, hy, hS, hT⟩
      have hX4H := Lib.hid (hX3H.out.turn hT hFb0)
      have hT4H := Lib.hid (hT3H.out.trans hT)
      have hS4H := Lib.hid hS
      clear hS hT hihH c0 c1 hX3H hT3H hS3H
      have c0 := hX4H.out.at' (i := 0) rfl
      have c1 := hX4H.out.at' (i := 1) rfl
      have hP := Lib.hid (rbPutT_at hS4H.out tn t ot y ht hot hy true)
      go_wp2_with fail
      refine hP.out.mono ?_
      rintro e W5 ⟨rfl, hS, hT⟩
      have hX5H := Lib.hid (hX4H.out.turn hT hFb0)
      have hT5H := Lib.hid (hT4H.out.trans hT)
      obtain ⟨Rb, hRb⟩ : ∃ Q, Q = rbPutT Ra tn t ot y true := ⟨_, rfl⟩
      rw [← hRb] at hS
      have hRbH := Lib.hid hRb
      clear hRb
      have hS5H := Lib.hid hS
      clear hS hT hP c0 c1 hX4H hT4H hS4H
      have hvH2 : Hid (rbJoin tn m low (f + 1) R t = (Rb, t)) := Lib.hid (by rw [hvH.out, hRbH.out]; rfl)
      clear hvH hRbH
      have hvH := hvH2
      clear hvH2
      have c0 := hX5H.out.at' (i := 0) rfl
      have c1 := hX5H.out.at' (i := 1) rfl
      go_wp2
      go_ret
      rw [hvH.out]
      exact ⟨rfl, ht, hS5H.out, hT5H.out⟩
    | false =>
      simp only [his] at hq1
      by_cases hbb : b1 = b2
      · have hc : (rbRed R t = false ∧ b1 = b2) := ⟨his, hbb⟩
        rw [if_pos hc] at hv
        have hvH := Lib.hid hv
        have de : ((b1 : Int) == (b2 : Int)) = true := by simp; omega
        clear his hc hbb hv ih hdn hot how hoH
        go_enter Tryz.func236, Tryz.ntmps236
        go_wp2_with fail
        rw [← hW0H.out]
        have x0 := fun X : Bel W0 => X.cell (hX0H.out.at' (i := 0) rfl)
        have x1 := fun X : Bel W0 => X.cell (hX0H.out.at' (i := 1) rfl)
        refine wp_region_calm (by kernel_rfl) (by kernel_rfl) ?_
        repeat (go_big_quiet_step ((first | (go_at_call 217; exact calls_calm (hq1 _)) | (go_at_call 214; exact calls_calm (hq2 _)) | (go_at_call 214; exact calls_calm (hq3 _)))))
        refine wpQuiet_nil ?_
        rintro _ ⟨X, rfl⟩
        have hbX := Lib.hid X.h
        generalize X.W = W1 at *
        clear x0 x1
        have hX1H := Lib.hid (hX0H.out.below hbX.out)
        have hS1H := Lib.hid (hS0H.out.below hbX.out)
        have hT1H := Lib.hid (hT0H.out.trans (Turn.below (F := F) hbX.out))
        clear hX0H hS0H hT0H hr0H hbX
        clear hq1 hq2 hq3
        have c0 := hX1H.out.at' (i := 0) rfl
        have c1 := hX1H.out.at' (i := 1) rfl
        have hP := Lib.hid (rbPutT_at hS1H.out tn m t low hm ht hlow true)
        go_wp2_with fail
        refine hP.out.mono ?_
        rintro e W2 ⟨rfl, hS, hT⟩
        have hX2H := Lib.hid (hX1H.out.turn hT hFb0)
        have hT2H := Lib.hid (hT1H.out.trans hT)
        have hS2H := Lib.hid hS
        clear hS hT hP c0 c1 hX1H hT1H hS1H
        go_wp2
        go_ret
        rw [hvH.out]
        exact ⟨rfl, hm, hS2H.out, hT2H.out⟩
      · have hc : ¬ (rbRed R t = false ∧ b1 = b2) := fun h => hbb h.2
        rw [if_neg hc, his] at hv
        have de : ((b1 : Int) == (b2 : Int)) = false := by simp; omega
        have hisH := Lib.hid his
        clear his hc hbb
        go_enter Tryz.func236, Tryz.ntmps236
        go_wp2_with fail
        rw [← hW0H.out]
        have x0 := fun X : Bel W0 => X.cell (hX0H.out.at' (i := 0) rfl)
        have x1 := fun X : Bel W0 => X.cell (hX0H.out.at' (i := 1) rfl)
        refine wp_region_calm (by kernel_rfl) (by kernel_rfl) ?_
        repeat (go_big_quiet_step ((first | (go_at_call 217; exact calls_calm (hq1 _)) | (go_at_call 214; exact calls_calm (hq2 _)) | (go_at_call 214; exact calls_calm (hq3 _)))))
        refine wpQuiet_nil ?_
        rintro _ ⟨X, rfl⟩
        have hbX := Lib.hid X.h
        generalize X.W = W1 at *
        clear x0 x1
        have hX1H := Lib.hid (hX0H.out.below hbX.out)
        have hS1H := Lib.hid (hS0H.out.below hbX.out)
        have hT1H := Lib.hid (hT0H.out.trans (Turn.below (F := F) hbX.out))
        clear hX0H hS0H hT0H hr0H hbX
        clear hq1 hq2 hq3
        obtain ⟨nr1, hr1, _⟩ := hS1H.out.rd
        have hr1H := Lib.hid hr1
        clear hr1
        have c0 := hX1H.out.at' (i := 0) rfl
        have c1 := hX1H.out.at' (i := 1) rfl
        have hQ := Lib.hid (by have := rbSides_at hr1H.out tn t ht; rw [hoH.out] at this; exact this)
        go_wp2_with fail
        refine hQ.out.mono ?_
        rintro e W2 ⟨rfl, hb⟩
        have hX2H := Lib.hid (hX1H.out.below hb)
        have hS2H := Lib.hid (hS1H.out.below hb)
        have hT2H := Lib.hid (hT1H.out.trans (Turn.below (F := F) hb))
        clear hb hQ c0 c1 hX1H hS1H hT1H
        clear hr1H
        obtain ⟨nr2, hr2, _⟩ := hS2H.out.rd
        have hr2H := Lib.hid hr2
        clear hr2
        have c0 := hX2H.out.at' (i := 0) rfl
        have c1 := hX2H.out.at' (i := 1) rfl
        have hQ := Lib.hid (by have := rbRed_at hr2H.out t ht; rw [hisH.out] at this; exact this)
        go_wp2_with fail
        refine hQ.out.mono ?_
        rintro e W3 ⟨rfl, hb⟩
        have hX3H := Lib.hid (hX2H.out.below hb)
        have hS3H := Lib.hid (hS2H.out.below hb)
        have hT3H := Lib.hid (hT2H.out.trans (Turn.below (F := F) hb))
        clear hb hQ c0 c1 hX2H hS2H hT2H
        clear hr2H
        have c0 := hX3H.out.at' (i := 0) rfl
        have c1 := hX3H.out.at' (i := 1) rfl
        have hih := ih W3 R ow (by omega) how hS3H.out
        rw [hdn.out] at hih
        generalize rbJoin tn m low f R ow = p at *
        obtain ⟨Ra, y⟩ := p
        simp only at hih hv
        have hihH := Lib.hid hih
        have hvH := Lib.hid hv
        clear hih hv
        go_wp2_with fail
        refine hihH.out.mono ?_
        rintro e W4 ⟨rfl, hy, hS, hT⟩
        have hX4H := Lib.hid (hX3H.out.turn hT hFb0)
        have hT4H := Lib.hid (hT3H.out.trans hT)
        have hS4H := Lib.hid hS
        clear hS hT hihH c0 c1 hX3H hT3H hS3H
        have c0 := hX4H.out.at' (i := 0) rfl
        have c1 := hX4H.out.at' (i := 1) rfl
        have hP := Lib.hid (rbPutT_at hS4H.out tn t ot y ht hot hy false)
        go_wp2_with fail
        refine hP.out.mono ?_
        rintro e W5 ⟨rfl, hS, hT⟩
        have hX5H := Lib.hid (hX4H.out.turn hT hFb0)
        have hT5H := Lib.hid (hT4H.out.trans hT)
        obtain ⟨Rb, hRb⟩ : ∃ Q, Q = rbPutT Ra tn t ot y false := ⟨_, rfl⟩
        rw [← hRb] at hS
        have hRbH := Lib.hid hRb
        clear hRb
        have hS5H := Lib.hid hS
        clear hS hT hP c0 c1 hX4H hT4H hS4H
        obtain ⟨nr5, hr5, _⟩ := hS5H.out.rd
        have hr5H := Lib.hid hr5
        clear hr5
        have hvH2 := Lib.hid (hvH.out.trans (show _ = rbStep2 tn Rb t ot y by rw [hRbH.out]; rfl))
        have hvH3 : rbJoin tn m low (f + 1) R t = _ := hvH2.out.trans (by unfold rbStep2; rfl)
        have hvH4 := Lib.hid hvH3
        clear hvH hvH2 hvH3 hRbH
        have hvH := hvH4
        clear hvH4
        obtain ⟨ab, hab⟩ : ∃ p, rbSides Rb tn y = p := ⟨_, rfl⟩
        have habl := rbSides_lt hr5H.out tn y
        rw [hab] at hvH habl
        obtain ⟨ya, yb⟩ := ab
        simp only at hvH habl
        obtain ⟨hya, hyb⟩ := habl
        obtain ⟨cd, hcd⟩ : ∃ p, rbSides Rb tn yb = p := ⟨_, rfl⟩
        have hcdl := rbSides_lt hr5H.out tn yb
        rw [hcd] at hvH hcdl
        obtain ⟨yc, yd⟩ := cd
        simp only at hvH hcdl
        obtain ⟨hyc, hyd⟩ := hcdl
        have habH := Lib.hid hab
        have hcdH := Lib.hid hcd
        clear hab hcd
        cases h1 : rbRed Rb y with
        | false =>
          have hvH2 : Hid (rbJoin tn m low (f + 1) R t = (Rb, t)) := Lib.hid (by rw [hvH.out, if_pos h1])
          clear hvH
          have hvH := hvH2
          clear hvH2
          have h1H := Lib.hid h1
          clear h1
          have c0 := hX5H.out.at' (i := 0) rfl
          have c1 := hX5H.out.at' (i := 1) rfl
          have hQ := Lib.hid (by have := rbRed_at hr5H.out y hy; rw [h1H.out] at this; exact this)
          go_wp2_with fail
          refine hQ.out.mono ?_
          rintro e W6 ⟨rfl, hb⟩
          have hX6H := Lib.hid (hX5H.out.below hb)
          have hS6H := Lib.hid (hS5H.out.below hb)
          have hT6H := Lib.hid (hT5H.out.trans (Turn.below (F := F) hb))
          clear hb hQ c0 c1 hX5H hS5H hT5H
          go_wp2
          go_ret
          rw [hvH.out]
          exact ⟨rfl, ht, hS6H.out, hT6H.out⟩
        | true =>
          have hvH2 := Lib.hid (hvH.out.trans (if_neg (by rw [h1]; simp)))
          clear hvH
          have hvH := hvH2
          clear hvH2
          have h1H := Lib.hid h1
          clear h1
          have c0 := hX5H.out.at' (i := 0) rfl
          have c1 := hX5H.out.at' (i := 1) rfl
          have hQ := Lib.hid (by have := rbRed_at hr5H.out y hy; rw [h1H.out] at this; exact this)
          go_wp2_with fail
          refine hQ.out.mono ?_
          rintro e W6 ⟨rfl, hb⟩
          have hX6H := Lib.hid (hX5H.out.below hb)
          have hS6H := Lib.hid (hS5H.out.below hb)
          have hT6H := Lib.hid (hT5H.out.trans (Turn.below (F := F) hb))
          clear hb hQ c0 c1 hX5H hS5H hT5H
          clear hr5H
          obtain ⟨nr6, hr6, _⟩ := hS6H.out.rd
          have hr6H := Lib.hid hr6
          clear hr6
          have c0 := hX6H.out.at' (i := 0) rfl
          have c1 := hX6H.out.at' (i := 1) rfl
          have hQ := Lib.hid (by have := rbSides_at hr6H.out tn y hy; rw [habH.out] at this; exact this)
          go_wp2_with fail
          refine hQ.out.mono ?_
          rintro e W7 ⟨rfl, hb⟩
          have hX7H := Lib.hid (hX6H.out.below hb)
          have hS7H := Lib.hid (hS6H.out.below hb)
          have hT7H := Lib.hid (hT6H.out.trans (Turn.below (F := F) hb))
          clear hb hQ c0 c1 hX6H hS6H hT6H
          clear hr6H
          obtain ⟨nr7, hr7, _⟩ := hS7H.out.rd
          have hr7H := Lib.hid hr7
          clear hr7
          cases h2 : rbRed Rb yb with
          | false =>
            have hvH2 : Hid (rbJoin tn m low (f + 1) R t = (Rb, t)) := Lib.hid (by rw [hvH.out, if_pos h2])
            clear hvH
            have hvH := hvH2
            clear hvH2
            have h2H := Lib.hid h2
            clear h2
            have c0 := hX7H.out.at' (i := 0) rfl
            have c1 := hX7H.out.at' (i := 1) rfl
            have hQ := Lib.hid (by have := rbRed_at hr7H.out yb hyb; rw [h2H.out] at this; exact this)
            go_wp2_with fail
            refine hQ.out.mono ?_
            rintro e W8 ⟨rfl, hb⟩
            have hX8H := Lib.hid (hX7H.out.below hb)
            have hS8H := Lib.hid (hS7H.out.below hb)
            have hT8H := Lib.hid (hT7H.out.trans (Turn.below (F := F) hb))
            clear hb hQ c0 c1 hX7H hS7H hT7H
            go_wp2
            go_ret
            rw [hvH.out]
            exact ⟨rfl, ht, hS8H.out, hT8H.out⟩
          | true =>
            have hvH2 := Lib.hid (hvH.out.trans (if_neg (by rw [h2]; simp)))
            clear hvH
            have hvH := hvH2
            clear hvH2
            have h2H := Lib.hid h2
            clear h2
            have c0 := hX7H.out.at' (i := 0) rfl
            have c1 := hX7H.out.at' (i := 1) rfl
            have hQ := Lib.hid (by have := rbRed_at hr7H.out yb hyb; rw [h2H.out] at this; exact this)
            go_wp2_with fail
            refine hQ.out.mono ?_
            rintro e W8 ⟨rfl, hb⟩
            have hX8H := Lib.hid (hX7H.out.below hb)
            have hS8H := Lib.hid (hS7H.out.below hb)
            have hT8H := Lib.hid (hT7H.out.trans (Turn.below (F := F) hb))
            clear hb hQ c0 c1 hX7H hS7H hT7H
            clear hr7H
            obtain ⟨nr8, hr8, _⟩ := hS8H.out.rd
            have hr8H := Lib.hid hr8
            clear hr8
            have c0 := hX8H.out.at' (i := 0) rfl
            have c1 := hX8H.out.at' (i := 1) rfl
            have hQ := Lib.hid (by have := rbSides_at hr8H.out tn yb hyb; rw [hcdH.out] at this; exact this)
            go_wp2_with fail
            refine hQ.out.mono ?_
            rintro e W9 ⟨rfl, hb⟩
            have hX9H := Lib.hid (hX8H.out.below hb)
            have hS9H := Lib.hid (hS8H.out.below hb)
            have hT9H := Lib.hid (hT8H.out.trans (Turn.below (F := F) hb))
            clear hb hQ c0 c1 hX8H hS8H hT8H
            clear hr8H
            have c0 := hX9H.out.at' (i := 0) rfl
            have c1 := hX9H.out.at' (i := 1) rfl
            have hP := Lib.hid (rbPutT_at hS9H.out tn yb yc yd hyb hyc hyd false)
            go_wp2_with fail
            refine hP.out.mono ?_
            rintro e W10 ⟨rfl, hS, hT⟩
            have hX10H := Lib.hid (hX9H.out.turn hT hFb0)
            have hT10H := Lib.hid (hT9H.out.trans hT)
            obtain ⟨Rc, hRc⟩ : ∃ Q, Q = rbPutT Rb tn yb yc yd false := ⟨_, rfl⟩
            rw [← hRc] at hS
            have hRcH := Lib.hid hRc
            clear hRc
            have hS10H := Lib.hid hS
            clear hS hT hP c0 c1 hX9H hT9H hS9H
            have c0 := hX10H.out.at' (i := 0) rfl
            have c1 := hX10H.out.at' (i := 1) rfl
            have hP := Lib.hid (rbPutT_at hS10H.out tn t ot ya ht hot hya false)
            go_wp2_with fail
            refine hP.out.mono ?_
            rintro e W11 ⟨rfl, hS, hT⟩
            have hX11H := Lib.hid (hX10H.out.turn hT hFb0)
            have hT11H := Lib.hid (hT10H.out.trans hT)
            obtain ⟨Rd', hRd'⟩ : ∃ Q, Q = rbPutT Rc tn t ot ya false := ⟨_, rfl⟩
            rw [← hRd'] at hS
            have hRd'H := Lib.hid hRd'
            clear hRd'
            have hS11H := Lib.hid hS
            clear hS hT hP c0 c1 hX10H hT10H hS10H
            have c0 := hX11H.out.at' (i := 0) rfl
            have c1 := hX11H.out.at' (i := 1) rfl
            have hP := Lib.hid (rbPutT_at hS11H.out tn y t yb hy ht hyb true)
            go_wp2_with fail
            refine hP.out.mono ?_
            rintro e W12 ⟨rfl, hS, hT⟩
            have hX12H := Lib.hid (hX11H.out.turn hT hFb0)
            have hT12H := Lib.hid (hT11H.out.trans hT)
            have hS12H := Lib.hid hS
            clear hS hT hP c0 c1 hX11H hT11H hS11H
            go_wp2
            go_ret
            rw [hvH.out, ← hRcH.out, ← hRd'H.out]
            exact ⟨rfl, hy, hS12H.out, hT12H.out⟩
end
end Go.Proofs.YtijpmjaeanocpaaGreatDoor

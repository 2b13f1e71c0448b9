/-
  The seat's own texts, shared part d: High13, RbBase.
-/
import Derived.Test.YtjpmlneihbckpaaGreatDoorNc
/- loftlaw13.height: the walk. -/
set_option linter.unusedVariables false
set_option linter.unusedSimpArgs false
namespace Go.Proofs.YtjpmlneihbckpaaGreatDoor
open Go.RowKit Go.Shelf
set_option maxHeartbeats 4000000 in
set_option maxRecDepth 100000 in
theorem height13_at {s N n : Nat} {R : Nat → Option (List Nat)} (h0 : R 0 = none) : ∀ (t : BT) (d : Nat) (w : World), t.At R → Rd N w s R n → t.hgt + d ≤ 100 →
    Calls Tryz.prog 22 #[.pointer (some ⟨s, 0, none⟩), .int .u64 (t.root : Nat), .int .i64 (d : Nat)] w fun e w' => e = .returned (.int .i64 (t.hgt : Nat)) ∧ Below w.heap.size w w'
  | .nil, d, w, ht, h, hd => by
    have hG := nget_lit h 0 (by omega) Nd.zero (BT.nodeG_zero h0) 7 (by unfold nodeE; rw [h0])
    have hGH := Lib.hid hG
    clear hG h
    simp only [BT.hgt] at hd
    show Calls Tryz.prog 22 #[.pointer (some ⟨s, 0, none⟩), .int .u64 ((0 : Nat) : Int), .int .i64 (d : Nat)] w fun e w' => e = .returned (.int .i64 ((0 : Nat) : Int)) ∧ Below w.heap.size w w'
    go_enter Tryz.func22, Tryz.ntmps22
    go_wp2_with fail
    refine hGH.out.mono ?_
    unfold Nd.zero
    rintro e w1 ⟨rfl, hb⟩
    have hbH := Lib.hid hb
    have hz1 := hb.size
    clear hb hGH
    go_wp2
    go_ret
    exact ⟨rfl, hbH.out.alloc hz1 _⟩
  | .node x kx vx m k v l r, d, w, ht, h, hd => by
    have hmo : Tryz.prog.follows .mixedOrders = true := by kernel_rfl
    have hl := ht.2.2.2.2.2.2.1
    have hr := ht.2.2.2.2.2.2.2
    obtain ⟨e1, e2⟩ := nodeR_at ht.2.1
    obtain ⟨nd, hnd⟩ : ∃ nd, (⟨kx, vx, l.root, r.root, m, l.size + 1 + r.size⟩ : Nd) = nd := ⟨_, rfl⟩
    have hnl : nd.left = l.root := by rw [← hnd]
    have hnr : nd.right = r.root := by rw [← hnd]
    rw [hnd] at e2
    have hG := Lib.hid (nget_lit h x (h.u64 ht.2.1).1 nd e2 0 e1)
    have hh : Hid ((BT.node x kx vx m k v l r).hgt = max l.hgt r.hgt + 1) := Lib.hid rfl
    have hd1 : max l.hgt r.hgt + 1 + d ≤ 100 := hd
    have ml := Nat.le_max_left l.hgt r.hgt
    have mr := Nat.le_max_right l.hgt r.hgt
    have i1 := Lib.hid (fun W (hb : Below w.heap.size w W) => height13_at h0 l (d + 1) W hl (h.below hb) (by omega))
    have i2 := Lib.hid (fun W (hb : Below w.heap.size w W) => height13_at h0 r (d + 1) W hr (h.below hb) (by omega))
    have hd2 : d < 100 := by omega
    have lb : l.hgt < 100 := by omega
    have rb : r.hgt < 100 := by omega
    push_cast at i1 i2
    show Calls Tryz.prog 22 #[.pointer (some ⟨s, 0, none⟩), .int .u64 (x : Nat), .int .i64 (d : Nat)] w fun e w' => e = .returned (.int .i64 ((BT.node x kx vx m k v l r).hgt : Nat)) ∧ Below w.heap.size w w'
    clear h hnd hd hd1 ml mr e1 e2 ht hl hr
    go_enter Tryz.func22, Tryz.ntmps22
    go_wp2_with fail
    refine hG.out.mono ?_
    rintro e w1 ⟨rfl, hb1⟩
    have hb1H := Lib.hid hb1
    have hz1 := hb1.size
    clear hb1 hG
    go_wp2_with fail
    obtain ⟨W3, hW⟩ : ∃ W, W = w1.alloc (Obj.cells #[.int .u64 (nd.key : Nat), .int .u64 (nd.val : Nat), .int .u64 (l.root : Nat), .int .u64 (r.root : Nat), .int .u64 (nd.mark : Nat), .int .u64 (nd.size : Nat)] 53) := ⟨_, rfl⟩
    obtain ⟨b3, hb⟩ : ∃ b, b = w1.heap.size := ⟨_, rfl⟩
    have hX3 : Hid (Box W3 b3 53 [.int .u64 (nd.key : Nat), .int .u64 (nd.val : Nat), .int .u64 (l.root : Nat), .int .u64 (r.root : Nat), .int .u64 (nd.mark : Nat), .int .u64 (nd.size : Nat)]) := Lib.hid (by rw [hW, hb]; exact Box.new w1 53 [.int .u64 (nd.key : Nat), .int .u64 (nd.val : Nat), .int .u64 (l.root : Nat), .int .u64 (r.root : Nat), .int .u64 (nd.mark : Nat), .int .u64 (nd.size : Nat)])
    have hBW3 : Hid (Below w.heap.size w W3) := Lib.hid (by rw [hW]; exact hb1H.out.alloc hz1 _)
    rw [← hW, ← hb]
    clear hW hb hz1 hb1H hnl hnr
    have c2 := fun X : Bel W3 => X.cell (hX3.out.at' (i := 2) rfl)
    have c3 := fun X : Bel W3 => X.cell (hX3.out.at' (i := 3) rfl)
    refine wp_region_row (fun w' => ∃ X : Bel W3, w' = X.W) [0, 1, 2, 3, 4, 6, 7, 8, 9, 10] [5, 11, 12, 13, 14] hmo (by kernel_rfl) rfl (by kernel_rfl) (Bel.start _) (fun _ _ d _ _ h => by cases d <;> exact h) ?_
    refine wpReads_step _ _ rfl rfl (by rintro _ ⟨X, rfl⟩; go_simp; exact rfl) ?_
    go_simp
    refine wpReads_step _ _ rfl rfl (by rintro _ ⟨X, rfl⟩; go_simp; exact rfl) ?_
    go_simp
    refine wpReads_step _ _ rfl rfl (by rintro _ ⟨X, rfl⟩; go_simp; exact rfl) ?_
    go_simp
    refine wpReads_step _ _ rfl rfl (by rintro _ ⟨X, rfl⟩; go_simp; exact rfl) ?_
    go_simp
    refine wpReads_step _ _ rfl rfl (by rintro _ ⟨X, rfl⟩; go_simp; exact rfl) ?_
    go_simp
    refine wpReads_step _ _ rfl rfl (by rintro _ ⟨X, rfl⟩; go_simp; exact rfl) ?_
    go_simp
    refine wpReads_step _ _ rfl rfl (by rintro _ ⟨X, rfl⟩; go_simp; exact rfl) ?_
    go_simp
    refine wpReads_step _ _ rfl rfl (by rintro _ ⟨X, rfl⟩; go_simp; exact rfl) ?_
    go_simp
    refine wpReads_step _ _ rfl rfl (by rintro _ ⟨X, rfl⟩; go_simp; exact rfl) ?_
    go_simp
    refine wpReads_step _ _ rfl rfl (by rintro _ ⟨X, rfl⟩; go_simp; exact rfl) ?_
    go_simp
    refine wpReads_nil ?_
    clear c2 c3
    have hbd4 : Hid (Below w.heap.size w W3.drew) := Lib.hid (hBW3.out.trans ((below_drawn W3).mono hBW3.out.size))
    refine wpActs_step _ rfl (fun K1 hK1 => ?_)
    go_wp2_with fail
    refine (i1.out _ hbd4.out).mono ?_
    rintro e w4 ⟨rfl, hb4⟩
    have hb4H := Lib.hid (hbd4.out.trans (hb4.mono hbd4.out.size))
    have hk4 : Hid (Below W3.heap.size W3 w4) := Lib.hid ((below_drawn W3).trans hb4)
    clear hb4
    go_wp2
    refine hK1 _ _ ⟨⟨w4, hk4.out⟩, rfl⟩ ?_
    clear hK1 K1
    refine wpActs_step _ rfl (fun K2 hK2 => ?_)
    go_wp2_with fail
    refine (i2.out _ hb4H.out).mono ?_
    rintro e w5 ⟨rfl, hb5⟩
    have hk5 : Hid (Below W3.heap.size W3 w5) := Lib.hid (hk4.out.trans (hb5.mono hk4.out.size))
    have hb5H := Lib.hid (hb4H.out.trans (hb5.mono hb4H.out.size))
    clear hb5
    go_wp2
    refine hK2 _ _ ⟨⟨w5, hk5.out⟩, rfl⟩ ?_
    clear hK2 K2
    refine wpActs_step _ rfl (fun K3 hK3 => ?_)
    go_wp2
    refine hK3 _ _ ⟨⟨w5, hk5.out⟩, rfl⟩ ?_
    clear hK3 K3
    refine wpActs_step _ rfl (fun K4 hK4 => ?_)
    go_wp2
    refine hK4 _ _ ⟨⟨w5, hk5.out⟩, rfl⟩ ?_
    clear hK4 K4
    refine wpActs_step _ rfl (fun K5 hK5 => ?_)
    go_wp2
    refine hK5 _ _ ⟨⟨w5, hk5.out⟩, rfl⟩ ?_
    clear hK5 K5
    refine wpActs_nil ?_
    go_wp2
    go_ret
    refine ⟨?_, hb5H.out⟩
    rw [hh.out, show ((max l.hgt r.hgt + 1 : Nat) : Int) = 1 + max (l.hgt : Int) (r.hgt : Int) by omega]
    first
      | rfl
      | (rw [IntWalk.wrap64_in _ (by omega)]; rfl)
end Go.Proofs.YtjpmlneihbckpaaGreatDoor
/- What the claims of layer 13 share. -/
set_option linter.unusedVariables false
namespace Go.Proofs.YtjpmlneihbckpaaGreatDoor
theorem rbBase_stands : True := trivial
end Go.Proofs.YtjpmlneihbckpaaGreatDoor

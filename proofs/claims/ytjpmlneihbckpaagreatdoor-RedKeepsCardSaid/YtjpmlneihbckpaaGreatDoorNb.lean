/-
  The seat's own texts, shared part b: RbW3, AvW2, AvW3, AvW6, RbW4, RbT.
-/
import Derived.Test.YtjpmlneihbckpaaGreatDoorNa
/- The walks of package redblack: a joiner's sides and put. -/
set_option linter.unusedVariables false
set_option linter.unusedSimpArgs false
namespace Go.Proofs.YtjpmlneihbckpaaGreatDoor
open Go.RowKit Go.Shelf
set_option maxRecDepth 100000 in
theorem rbPick_at (a b bx : Nat) (tn : Bool) (w : World) (hc : w.cell? ⟨bx, 1, none⟩ = some (.bool tn)) :
    Calls Tryz.prog 111 #[.int .u64 (a : Nat), .int .u64 (b : Nat), .pointer (some ⟨bx, 0, none⟩)] w fun e w' => e = .returned (.tuple #[.int .u64 ((if tn then (b, a) else (a, b)).1 : Nat), .int .u64 ((if tn then (b, a) else (a, b)).2 : Nat)]) ∧ w = w' := by
  cases tn with
  | false =>
    go_enter Tryz.func111, Tryz.ntmps111
    go_wp2
    go_ret2
    exact ⟨rfl, rfl⟩
  | true =>
    go_enter Tryz.func111, Tryz.ntmps111
    go_wp2
    go_ret2
    exact ⟨rfl, rfl⟩
section
variable {w w' : World} {s N : Nat} {R : Nat → Option (List Nat)} {n : Nat}
set_option maxHeartbeats 2000000 in
set_option maxRecDepth 100000 in
theorem rbSides_at (h : Rd N w s R n) (tn : Bool) (x : Nat) (hx : x < 18446744073709551616) :
    Calls Tryz.prog 85 #[.agg #[.pointer (some ⟨s, 0, none⟩), .bool tn], .int .u64 (x : Nat)] w fun e w' => e = .returned (.tuple #[.int .u64 ((rbSides R tn x).1 : Nat), .int .u64 ((rbSides R tn x).2 : Nat)]) ∧ Below w.heap.size w w' := by
  have hmf : ∀ (fn : Fn) (first cap : Array Value) (w : World), (Instr.makeFunc fn first cap).run Tryz.prog w = .ok (.func fn first cap) w := fun _ _ _ _ => rfl
  obtain ⟨nd, hnd⟩ : ∃ nd, nodeG R x = nd := ⟨_, rfl⟩
  have hv : Hid (rbSides R tn x = if tn then (nd.right, nd.left) else (nd.left, nd.right)) := Lib.hid (by unfold rbSides; rw [hnd])
  have hG := Lib.hid (fun W (hb : Below w.heap.size w W) => rbGet_at (h.below hb) x hx nd hnd)
  have hPk := fun W => rbPick_at nd.left nd.right w.heap.size tn W
  generalize (if tn then (nd.right, nd.left) else (nd.left, nd.right)) = oo at *
  obtain ⟨pa, pb⟩ := oo
  have hPkH := Lib.hid hPk
  clear hPk
  have hX0 := Box.new w 104 [.pointer (some ⟨s, 0, none⟩), .bool tn]
  obtain ⟨W0, hW0⟩ : ∃ W, W = w.alloc (Obj.cells #[.pointer (some ⟨s, 0, none⟩), .bool tn] 104) := ⟨_, rfl⟩
  have hb0 : Below w.heap.size w W0 := by rw [hW0]; exact (Below.refl _ w).alloc (Nat.le_refl _) _
  rw [← hW0] at hX0
  have c0 := hX0.at' (i := 0) rfl
  have hX0H := Lib.hid hX0
  have hb0H := Lib.hid hb0
  have hW0H := Lib.hid hW0
  clear h hnd hX0 hb0 hW0
  go_enter Tryz.func85, Tryz.ntmps85
  go_wp2_with fail
  rw [← hW0H.out]
  go_wp2_with fail
  refine (hG.out _ hb0H.out).mono ?_
  rintro e w1 ⟨rfl, hb1⟩
  have hb1H := Lib.hid (hb0H.out.trans (hb1.mono hb0H.out.size))
  have hz1 := hb1H.out.size
  have hX1H := Lib.hid (hX0H.out.below hb1)
  clear hb1 hG c0
  go_wp2_with fail
  have hX2 := hX1H.out.alloc (Obj.cells #[.int .u64 (nd.key : Nat), .int .u64 (nd.val : Nat), .int .u64 (nd.left : Nat), .int .u64 (nd.right : Nat), .int .u64 (nd.mark : Nat), .int .u64 (nd.size : Nat)] 53)
  refine (hPkH.out _ (hX2.at' (i := 1) rfl)).mono ?_
  rintro e w2 ⟨rfl, rfl⟩
  clear hX2
  go_wp2
  go_ret2
  rw [hv.out]
  exact ⟨rfl, hb1H.out.alloc hz1 _⟩
end
section
variable {w w' : World} {s : Nat} {F : Nat → Prop} {R : Nat → Option (List Nat)} {H : List Nat} {P q most last G : Nat}
set_option maxHeartbeats 2000000 in
set_option maxRecDepth 100000 in
theorem rbPutT_at (h : StoreIs w s F R H P q most last G) (tn : Bool) (x other own : Nat) (hx : x < 18446744073709551616) (hl : other < 18446744073709551616) (hr : own < 18446744073709551616) (red : Bool) :
    Calls Tryz.prog 86 #[.agg #[.pointer (some ⟨s, 0, none⟩), .bool tn], .int .u64 (x : Nat), .int .u64 (other : Nat), .int .u64 (own : Nat), .bool red] w fun e w' => e = .returned (.int .u64 (x : Nat)) ∧ StoreIs w' s F (rbPutT R tn x other own red) H P q most last G ∧ Turn w F w' F := by
  have hX0 := Box.new w 104 [.pointer (some ⟨s, 0, none⟩), .bool tn]
  obtain ⟨W0, hW0⟩ : ∃ W, W = w.alloc (Obj.cells #[.pointer (some ⟨s, 0, none⟩), .bool tn] 104) := ⟨_, rfl⟩
  have hb0 : Below w.heap.size w W0 := by rw [hW0]; exact (Below.refl _ w).alloc (Nat.le_refl _) _
  rw [← hW0] at hX0
  have c0 := hX0.at' (i := 0) rfl
  have c1 := hX0.at' (i := 1) rfl
  have hb0H := Lib.hid hb0
  have hW0H := Lib.hid hW0
  have hS := Lib.hid (h.below hb0)
  clear h hX0 hb0 hW0
  cases tn with
  | false =>
    have hP := Lib.hid (rbPut_at hS.out x other own hx hl hr red)
    clear hS
    go_enter Tryz.func86, Tryz.ntmps86
    go_wp2_with fail
    rw [← hW0H.out]
    go_wp2_with fail
    refine hP.out.mono ?_
    rintro e w1 ⟨rfl, hS1, hT1⟩
    have hS1H := Lib.hid hS1
    have hT1H := Lib.hid ((Turn.below (F := F) hb0H.out).trans hT1)
    clear hS1 hT1 hP
    go_wp2
    go_ret
    exact ⟨rfl, hS1H.out, hT1H.out⟩
  | true =>
    have hP := Lib.hid (rbPut_at hS.out x own other hx hr hl red)
    clear hS
    go_enter Tryz.func86, Tryz.ntmps86
    go_wp2_with fail
    rw [← hW0H.out]
    go_wp2_with fail
    refine hP.out.mono ?_
    rintro e w1 ⟨rfl, hS1, hT1⟩
    have hS1H := Lib.hid hS1
    have hT1H := Lib.hid ((Turn.below (F := F) hb0H.out).trans hT1)
    clear hS1 hT1 hP
    go_wp2
    go_ret
    exact ⟨rfl, hS1H.out, hT1H.out⟩
end
end Go.Proofs.YtjpmlneihbckpaaGreatDoor
/- The walks of package avl: left, right. -/
set_option linter.unusedVariables false
set_option linter.unusedSimpArgs false
namespace Go.Proofs.YtjpmlneihbckpaaGreatDoor
open Go.RowKit Go.Shelf
/-- a world in which all that lay in w, but the blocks F, lies as it lay -/
structure Kp (w : World) (F : Nat → Prop) where
  W : World
  F' : Nat → Prop
  h : Turn w F W F'
theorem Kp.cell {w : World} {F : Nat → Prop} {p : Addr} {v : Value} (hc : w.cell? p = some v) (hF : ¬ F p.block) (X : Kp w F) : X.W.cell? p = some v := X.h.cell hc hF
theorem Kp.start (w : World) (F : Nat → Prop) : ∃ X : Kp w F, { w with drawn := w.drawn + 1 } = X.W := ⟨⟨_, F, Turn.below (below_drawn w)⟩, rfl⟩
section
variable {w w' : World} {s : Nat} {F : Nat → Prop} {R : Nat → Option (List Nat)} {H : List Nat} {P q most last G : Nat}
set_option maxHeartbeats 2000000 in
set_option maxRecDepth 100000 in
theorem avLeft_at (h : StoreIs w s F R H P q most last G) (x : Nat) (hx : x < 18446744073709551616) :
    Calls Tryz.prog 167 #[.pointer (some ⟨s, 0, none⟩), .int .u64 (x : Nat)] w fun e w' => e = .returned (.int .u64 ((avLeft R x).2 : Nat)) ∧ StoreIs w' s F (avLeft R x).1 H P q most last G ∧ Turn w F w' F := by
  have hmo : Tryz.prog.follows .mixedOrders = true := by kernel_rfl
  obtain ⟨n, hrd, _⟩ := h.rd
  obtain ⟨t, ht⟩ : ∃ t, nodeG R x = t := ⟨_, rfl⟩
  obtain ⟨u, hu⟩ : ∃ u, nodeG R t.right = u := ⟨_, rfl⟩
  have hokt := hrd.nodeG x
  have hoku := hrd.nodeG t.right
  rw [ht] at hokt
  rw [hu] at hoku
  have hG1 := avGet_at hrd x hx
  have hG2 := fun W (hb : Below w.heap.size w W) => avGet_at (hrd.below hb) t.right hokt.right
  rw [ht] at hG1
  simp only [hu] at hG2
  unfold treeV at hG1 hG2
  have hG1H := Lib.hid hG1
  have hG2H := Lib.hid hG2
  have hHs := Lib.hid h
  have hv : Hid (avLeft R x = (withR (withR R t x t.left u.left) u t.right x u.right, t.right)) := Lib.hid (by unfold avLeft; rw [ht, hu])
  have hoktH := Lib.hid hokt
  have hokuH := Lib.hid hoku
  have hl1 := hokt.right
  have hFw : ∀ b, F b → b < w.heap.size := fun b hf => h.lt hf
  have hFwH := Lib.hid hFw
  clear h hrd hG1 hG2 ht hu hokt hoku hFw
  go_enter Tryz.func167, Tryz.ntmps167
  go_wp2_with fail
  refine hG1H.out.mono ?_
  rintro e w1 ⟨rfl, hb1⟩
  have hb1H := Lib.hid hb1
  have hz1 := hb1.size
  clear hb1
  go_wp2_with fail
  obtain ⟨W1, hW1⟩ : ∃ W1, W1 = w1.alloc (Obj.cells #[.int .u64 (t.key : Nat), .int .u64 (t.val : Nat), .int .u64 (t.left : Nat), .int .u64 (t.right : Nat), .int .u64 (t.mark : Nat), .int .u64 (t.size : Nat), .int .u64 (x : Nat)] 224) := ⟨_, rfl⟩
  obtain ⟨b1, hb1⟩ : ∃ b1, b1 = w1.heap.size := ⟨_, rfl⟩
  have hbx1 : Box W1 b1 224 [.int .u64 (t.key : Nat), .int .u64 (t.val : Nat), .int .u64 (t.left : Nat), .int .u64 (t.right : Nat), .int .u64 (t.mark : Nat), .int .u64 (t.size : Nat), .int .u64 (x : Nat)] := by rw [hW1, hb1]; exact Box.new w1 224 [.int .u64 (t.key : Nat), .int .u64 (t.val : Nat), .int .u64 (t.left : Nat), .int .u64 (t.right : Nat), .int .u64 (t.mark : Nat), .int .u64 (t.size : Nat), .int .u64 (x : Nat)]
  have hbW1 : Below w.heap.size w W1 := by rw [hW1]; exact hb1H.out.alloc hz1 _
  have hge1 : w.heap.size ≤ b1 := by omega
  rw [← hW1, ← hb1]
  have hbx1H := Lib.hid hbx1
  have hbW1H := Lib.hid hbW1
  clear hbx1 hbW1 hW1 hb1 hG1H hz1
  refine (hG2H.out _ hbW1H.out).mono ?_
  rintro e w2 ⟨rfl, hb2⟩
  have hb2H := Lib.hid (hbW1H.out.trans (hb2.mono hbW1H.out.size))
  have hbx2H := Lib.hid (hbx1H.out.below hb2)
  have hz2 := hb2H.out.size
  have hlt2 : b1 < w2.heap.size := hbx2H.out.lt
  clear hb2
  go_wp2_with fail
  obtain ⟨W2, hW2⟩ : ∃ W2, W2 = w2.alloc (Obj.cells #[.int .u64 (u.key : Nat), .int .u64 (u.val : Nat), .int .u64 (u.left : Nat), .int .u64 (u.right : Nat), .int .u64 (u.mark : Nat), .int .u64 (u.size : Nat), .int .u64 (t.right : Nat)] 224) := ⟨_, rfl⟩
  obtain ⟨b2, hb2⟩ : ∃ b2, b2 = w2.heap.size := ⟨_, rfl⟩
  have hbx3 : Box W2 b2 224 [.int .u64 (u.key : Nat), .int .u64 (u.val : Nat), .int .u64 (u.left : Nat), .int .u64 (u.right : Nat), .int .u64 (u.mark : Nat), .int .u64 (u.size : Nat), .int .u64 (t.right : Nat)] := by rw [hW2, hb2]; exact Box.new w2 224 [.int .u64 (u.key : Nat), .int .u64 (u.val : Nat), .int .u64 (u.left : Nat), .int .u64 (u.right : Nat), .int .u64 (u.mark : Nat), .int .u64 (u.size : Nat), .int .u64 (t.right : Nat)]
  have hbx2' : Box W2 b1 224 [.int .u64 (t.key : Nat), .int .u64 (t.val : Nat), .int .u64 (t.left : Nat), .int .u64 (t.right : Nat), .int .u64 (t.mark : Nat), .int .u64 (t.size : Nat), .int .u64 (x : Nat)] := by rw [hW2]; exact hbx2H.out.alloc _
  have hbW2 : Hid (Below w.heap.size w W2) := Lib.hid (by rw [hW2]; exact hb2H.out.alloc hz2 _)
  have hge2 : w.heap.size ≤ b2 := by omega
  rw [← hW2, ← hb2]
  have hF1 : ¬ F b1 := fun hf => by have := hFwH.out b1 hf; omega
  have hF2 : ¬ F b2 := fun hf => by have := hFwH.out b2 hf; omega
  clear hW2 hb2 hb2H hbx2H hbx1H hG2H hbW1H hz2 hlt2
  have c0 := fun X : Kp W2 F => Kp.cell (hbx2'.at' (i := 0) rfl) hF1 X
  have c1 := fun X : Kp W2 F => Kp.cell (hbx2'.at' (i := 1) rfl) hF1 X
  have c2 := fun X : Kp W2 F => Kp.cell (hbx2'.at' (i := 2) rfl) hF1 X
  have c3 := fun X : Kp W2 F => Kp.cell (hbx2'.at' (i := 3) rfl) hF1 X
  have c4 := fun X : Kp W2 F => Kp.cell (hbx2'.at' (i := 4) rfl) hF1 X
  have c5 := fun X : Kp W2 F => Kp.cell (hbx2'.at' (i := 5) rfl) hF1 X
  have c6 := fun X : Kp W2 F => Kp.cell (hbx2'.at' (i := 6) rfl) hF1 X
  have d0 := fun X : Kp W2 F => Kp.cell (hbx3.at' (i := 0) rfl) hF2 X
  have d1 := fun X : Kp W2 F => Kp.cell (hbx3.at' (i := 1) rfl) hF2 X
  have d2 := fun X : Kp W2 F => Kp.cell (hbx3.at' (i := 2) rfl) hF2 X
  have d3 := fun X : Kp W2 F => Kp.cell (hbx3.at' (i := 3) rfl) hF2 X
  have d4 := fun X : Kp W2 F => Kp.cell (hbx3.at' (i := 4) rfl) hF2 X
  have d5 := fun X : Kp W2 F => Kp.cell (hbx3.at' (i := 5) rfl) hF2 X
  have d6 := fun X : Kp W2 F => Kp.cell (hbx3.at' (i := 6) rfl) hF2 X
  refine wp_region_row (fun w' => ∃ X : Kp W2 F, w' = X.W) [0, 1, 2, 3, 4, 5, 6, 7, 8, 9, 11, 12, 13] [10, 14, 15] hmo (by kernel_rfl) rfl (by kernel_rfl) (Kp.start _ _) (fun _ _ d _ _ h => by cases d <;> exact h) ?_
  refine wpReads_step _ _ rfl rfl (by rintro _ ⟨X, rfl⟩; go_simp; exact rfl) ?_
  go_simp
  refine wpReads_step _ _ rfl rfl (by rintro _ ⟨X, rfl⟩; go_simp; exact rfl) ?_
  go_simp
  refine wpReads_step _ _ rfl rfl (by rintro _ ⟨X, rfl⟩; go_simp; exact rfl) ?_
  go_simp
  refine wpReads_step _ _ rfl rfl (by rintro _ ⟨X, rfl⟩; go_simp; exact rfl) ?_
  go_simp
  refine wpReads_step _ _ rfl rfl (by rintro _ ⟨X, rfl⟩; go_simp; exact rfl) ?_
  go_simp
  refine wpReads_step _ _ rfl rfl (by rintro _ ⟨X, rfl⟩; go_simp; exact rfl) ?_
  go_simp
  refine wpReads_step _ _ rfl rfl (by rintro _ ⟨X, rfl⟩; go_simp; exact rfl) ?_
  go_simp
  refine wpReads_step _ _ rfl rfl (by rintro _ ⟨X, rfl⟩; go_simp; exact rfl) ?_
  go_simp
  refine wpReads_step _ _ rfl rfl (by rintro _ ⟨X, rfl⟩; go_simp; exact rfl) ?_
  go_simp
  refine wpReads_step _ _ rfl rfl (by rintro _ ⟨X, rfl⟩; go_simp; exact rfl) ?_
  go_simp
  refine wpReads_step _ _ rfl rfl (by rintro _ ⟨X, rfl⟩; go_simp; exact rfl) ?_
  go_simp
  refine wpReads_step _ _ rfl rfl (by rintro _ ⟨X, rfl⟩; go_simp; exact rfl) ?_
  go_simp
  refine wpReads_step _ _ rfl rfl (by rintro _ ⟨X, rfl⟩; go_simp; exact rfl) ?_
  go_simp
  refine wpReads_nil ?_
  clear c0 c1 c2 c3 c4 c5 c6 d0 d1 d2 d3 d4 d5 d6 hbx2' hbx3
  have hS2 := (hHs.out.below hbW2.out).below (below_drawn W2)
  have hw1 := with_at hS2 t hoktH.out x t.left u.left hx hoktH.out.left hokuH.out.left
  unfold treeV at hw1
  have hw1H := Lib.hid hw1
  clear hS2 hw1
  refine wpActs_step _ rfl (fun K5 hK5 => ?_)
  go_wp2_with fail
  refine hw1H.out.mono ?_
  rintro e w3 ⟨rfl, hS3, hT3⟩
  have hT3' : Turn W2 F w3 F := (Turn.below (below_drawn W2)).trans hT3
  have hw2 := with_at hS3 u hokuH.out t.right x u.right hl1 hx hokuH.out.right
  unfold treeV at hw2
  have hw2H := Lib.hid hw2
  have hT3H := Lib.hid hT3'
  clear hS3 hT3 hT3' hw2 hw1H
  go_wp2
  refine hK5 _ _ ⟨⟨w3, F, hT3H.out⟩, rfl⟩ ?_
  clear hK5 K5
  refine wpActs_step _ rfl (fun K6 hK6 => ?_)
  go_wp2_with fail
  refine hw2H.out.mono ?_
  rintro e w4 ⟨rfl, hS4, hT4⟩
  have hT4H := Lib.hid (hT3H.out.trans hT4)
  have hS4H := Lib.hid hS4
  clear hS4 hT4 hw2H
  go_wp2
  refine hK6 _ _ ⟨⟨w4, F, hT4H.out⟩, rfl⟩ ?_
  clear hK6 K6
  refine wpActs_step _ rfl (fun K7 hK7 => ?_)
  go_wp2
  refine hK7 _ _ ⟨⟨w4, F, hT4H.out⟩, rfl⟩ ?_
  clear hK7 K7
  refine wpActs_nil ?_
  go_wp2
  go_ret
  rw [hv.out]
  exact ⟨rfl, hS4H.out, (Turn.below hbW2.out).trans hT4H.out⟩
set_option maxHeartbeats 2000000 in
set_option maxRecDepth 100000 in
theorem avRight_at (h : StoreIs w s F R H P q most last G) (x : Nat) (hx : x < 18446744073709551616) :
    Calls Tryz.prog 168 #[.pointer (some ⟨s, 0, none⟩), .int .u64 (x : Nat)] w fun e w' => e = .returned (.int .u64 ((avRight R x).2 : Nat)) ∧ StoreIs w' s F (avRight R x).1 H P q most last G ∧ Turn w F w' F := by
  have hmo : Tryz.prog.follows .mixedOrders = true := by kernel_rfl
  obtain ⟨n, hrd, _⟩ := h.rd
  obtain ⟨t, ht⟩ : ∃ t, nodeG R x = t := ⟨_, rfl⟩
  obtain ⟨u, hu⟩ : ∃ u, nodeG R t.left = u := ⟨_, rfl⟩
  have hokt := hrd.nodeG x
  have hoku := hrd.nodeG t.left
  rw [ht] at hokt
  rw [hu] at hoku
  have hG1 := avGet_at hrd x hx
  have hG2 := fun W (hb : Below w.heap.size w W) => avGet_at (hrd.below hb) t.left hokt.left
  rw [ht] at hG1
  simp only [hu] at hG2
  unfold treeV at hG1 hG2
  have hG1H := Lib.hid hG1
  have hG2H := Lib.hid hG2
  have hHs := Lib.hid h
  have hv : Hid (avRight R x = (withR (withR R t x u.right t.right) u t.left u.left x, t.left)) := Lib.hid (by unfold avRight; rw [ht, hu])
  have hoktH := Lib.hid hokt
  have hokuH := Lib.hid hoku
  have hl1 := hokt.left
  have hFw : ∀ b, F b → b < w.heap.size := fun b hf => h.lt hf
  have hFwH := Lib.hid hFw
  clear h hrd hG1 hG2 ht hu hokt hoku hFw
  go_enter Tryz.func168, Tryz.ntmps168
  go_wp2_with fail
  refine hG1H.out.mono ?_
  rintro e w1 ⟨rfl, hb1⟩
  have hb1H := Lib.hid hb1
  have hz1 := hb1.size
  clear hb1
  go_wp2_with fail
  obtain ⟨W1, hW1⟩ : ∃ W1, W1 = w1.alloc (Obj.cells #[.int .u64 (t.key : Nat), .int .u64 (t.val : Nat), .int .u64 (t.left : Nat), .int .u64 (t.right : Nat), .int .u64 (t.mark : Nat), .int .u64 (t.size : Nat), .int .u64 (x : Nat)] 224) := ⟨_, rfl⟩
  obtain ⟨b1, hb1⟩ : ∃ b1, b1 = w1.heap.size := ⟨_, rfl⟩
  have hbx1 : Box W1 b1 224 [.int .u64 (t.key : Nat), .int .u64 (t.val : Nat), .int .u64 (t.left : Nat), .int .u64 (t.right : Nat), .int .u64 (t.mark : Nat), .int .u64 (t.size : Nat), .int .u64 (x : Nat)] := by rw [hW1, hb1]; exact Box.new w1 224 [.int .u64 (t.key : Nat), .int .u64 (t.val : Nat), .int .u64 (t.left : Nat), .int .u64 (t.right : Nat), .int .u64 (t.mark : Nat), .int .u64 (t.size : Nat), .int .u64 (x : Nat)]
  have hbW1 : Below w.heap.size w W1 := by rw [hW1]; exact hb1H.out.alloc hz1 _
  have hge1 : w.heap.size ≤ b1 := by omega
  rw [← hW1, ← hb1]
  have hbx1H := Lib.hid hbx1
  have hbW1H := Lib.hid hbW1
  clear hbx1 hbW1 hW1 hb1 hG1H hz1
  refine (hG2H.out _ hbW1H.out).mono ?_
  rintro e w2 ⟨rfl, hb2⟩
  have hb2H := Lib.hid (hbW1H.out.trans (hb2.mono hbW1H.out.size))
  have hbx2H := Lib.hid (hbx1H.out.below hb2)
  have hz2 := hb2H.out.size
  have hlt2 : b1 < w2.heap.size := hbx2H.out.lt
  clear hb2
  go_wp2_with fail
  obtain ⟨W2, hW2⟩ : ∃ W2, W2 = w2.alloc (Obj.cells #[.int .u64 (u.key : Nat), .int .u64 (u.val : Nat), .int .u64 (u.left : Nat), .int .u64 (u.right : Nat), .int .u64 (u.mark : Nat), .int .u64 (u.size : Nat), .int .u64 (t.left : Nat)] 224) := ⟨_, rfl⟩
  obtain ⟨b2, hb2⟩ : ∃ b2, b2 = w2.heap.size := ⟨_, rfl⟩
  have hbx3 : Box W2 b2 224 [.int .u64 (u.key : Nat), .int .u64 (u.val : Nat), .int .u64 (u.left : Nat), .int .u64 (u.right : Nat), .int .u64 (u.mark : Nat), .int .u64 (u.size : Nat), .int .u64 (t.left : Nat)] := by rw [hW2, hb2]; exact Box.new w2 224 [.int .u64 (u.key : Nat), .int .u64 (u.val : Nat), .int .u64 (u.left : Nat), .int .u64 (u.right : Nat), .int .u64 (u.mark : Nat), .int .u64 (u.size : Nat), .int .u64 (t.left : Nat)]
  have hbx2' : Box W2 b1 224 [.int .u64 (t.key : Nat), .int .u64 (t.val : Nat), .int .u64 (t.left : Nat), .int .u64 (t.right : Nat), .int .u64 (t.mark : Nat), .int .u64 (t.size : Nat), .int .u64 (x : Nat)] := by rw [hW2]; exact hbx2H.out.alloc _
  have hbW2 : Hid (Below w.heap.size w W2) := Lib.hid (by rw [hW2]; exact hb2H.out.alloc hz2 _)
  have hge2 : w.heap.size ≤ b2 := by omega
  rw [← hW2, ← hb2]
  have hF1 : ¬ F b1 := fun hf => by have := hFwH.out b1 hf; omega
  have hF2 : ¬ F b2 := fun hf => by have := hFwH.out b2 hf; omega
  clear hW2 hb2 hb2H hbx2H hbx1H hG2H hbW1H hz2 hlt2
  have c0 := fun X : Kp W2 F => Kp.cell (hbx2'.at' (i := 0) rfl) hF1 X
  have c1 := fun X : Kp W2 F => Kp.cell (hbx2'.at' (i := 1) rfl) hF1 X
  have c2 := fun X : Kp W2 F => Kp.cell (hbx2'.at' (i := 2) rfl) hF1 X
  have c3 := fun X : Kp W2 F => Kp.cell (hbx2'.at' (i := 3) rfl) hF1 X
  have c4 := fun X : Kp W2 F => Kp.cell (hbx2'.at' (i := 4) rfl) hF1 X
  have c5 := fun X : Kp W2 F => Kp.cell (hbx2'.at' (i := 5) rfl) hF1 X
  have c6 := fun X : Kp W2 F => Kp.cell (hbx2'.at' (i := 6) rfl) hF1 X
  have d0 := fun X : Kp W2 F => Kp.cell (hbx3.at' (i := 0) rfl) hF2 X
  have d1 := fun X : Kp W2 F => Kp.cell (hbx3.at' (i := 1) rfl) hF2 X
  have d2 := fun X : Kp W2 F => Kp.cell (hbx3.at' (i := 2) rfl) hF2 X
  have d3 := fun X : Kp W2 F => Kp.cell (hbx3.at' (i := 3) rfl) hF2 X
  have d4 := fun X : Kp W2 F => Kp.cell (hbx3.at' (i := 4) rfl) hF2 X
  have d5 := fun X : Kp W2 F => Kp.cell (hbx3.at' (i := 5) rfl) hF2 X
  have d6 := fun X : Kp W2 F => Kp.cell (hbx3.at' (i := 6) rfl) hF2 X
  refine wp_region_row (fun w' => ∃ X : Kp W2 F, w' = X.W) [0, 1, 2, 3, 4, 5, 6, 7, 8, 9, 10, 11, 12] [13, 14, 15] hmo (by kernel_rfl) rfl (by kernel_rfl) (Kp.start _ _) (fun _ _ d _ _ h => by cases d <;> exact h) ?_
  refine wpReads_step _ _ rfl rfl (by rintro _ ⟨X, rfl⟩; go_simp; exact rfl) ?_
  go_simp
  refine wpReads_step _ _ rfl rfl (by rintro _ ⟨X, rfl⟩; go_simp; exact rfl) ?_
  go_simp
  refine wpReads_step _ _ rfl rfl (by rintro _ ⟨X, rfl⟩; go_simp; exact rfl) ?_
  go_simp
  refine wpReads_step _ _ rfl rfl (by rintro _ ⟨X, rfl⟩; go_simp; exact rfl) ?_
  go_simp
  refine wpReads_step _ _ rfl rfl (by rintro _ ⟨X, rfl⟩; go_simp; exact rfl) ?_
  go_simp
  refine wpReads_step _ _ rfl rfl (by rintro _ ⟨X, rfl⟩; go_simp; exact rfl) ?_
  go_simp
  refine wpReads_step _ _ rfl rfl (by rintro _ ⟨X, rfl⟩; go_simp; exact rfl) ?_
  go_simp
  refine wpReads_step _ _ rfl rfl (by rintro _ ⟨X, rfl⟩; go_simp; exact rfl) ?_
  go_simp
  refine wpReads_step _ _ rfl rfl (by rintro _ ⟨X, rfl⟩; go_simp; exact rfl) ?_
  go_simp
  refine wpReads_step _ _ rfl rfl (by rintro _ ⟨X, rfl⟩; go_simp; exact rfl) ?_
  go_simp
  refine wpReads_step _ _ rfl rfl (by rintro _ ⟨X, rfl⟩; go_simp; exact rfl) ?_
  go_simp
  refine wpReads_step _ _ rfl rfl (by rintro _ ⟨X, rfl⟩; go_simp; exact rfl) ?_
  go_simp
  refine wpReads_step _ _ rfl rfl (by rintro _ ⟨X, rfl⟩; go_simp; exact rfl) ?_
  go_simp
  refine wpReads_nil ?_
  clear c0 c1 c2 c3 c4 c5 c6 d0 d1 d2 d3 d4 d5 d6 hbx2' hbx3
  have hS2 := (hHs.out.below hbW2.out).below (below_drawn W2)
  have hw1 := with_at hS2 t hoktH.out x u.right t.right hx hokuH.out.right hoktH.out.right
  unfold treeV at hw1
  have hw1H := Lib.hid hw1
  clear hS2 hw1
  refine wpActs_step _ rfl (fun K5 hK5 => ?_)
  go_wp2_with fail
  refine hw1H.out.mono ?_
  rintro e w3 ⟨rfl, hS3, hT3⟩
  have hT3' : Turn W2 F w3 F := (Turn.below (below_drawn W2)).trans hT3
  have hw2 := with_at hS3 u hokuH.out t.left u.left x hl1 hokuH.out.left hx
  unfold treeV at hw2
  have hw2H := Lib.hid hw2
  have hT3H := Lib.hid hT3'
  clear hS3 hT3 hT3' hw2 hw1H
  go_wp2
  refine hK5 _ _ ⟨⟨w3, F, hT3H.out⟩, rfl⟩ ?_
  clear hK5 K5
  refine wpActs_step _ rfl (fun K6 hK6 => ?_)
  go_wp2_with fail
  refine hw2H.out.mono ?_
  rintro e w4 ⟨rfl, hS4, hT4⟩
  have hT4H := Lib.hid (hT3H.out.trans hT4)
  have hS4H := Lib.hid hS4
  clear hS4 hT4 hw2H
  go_wp2
  refine hK6 _ _ ⟨⟨w4, F, hT4H.out⟩, rfl⟩ ?_
  clear hK6 K6
  refine wpActs_step _ rfl (fun K7 hK7 => ?_)
  go_wp2
  refine hK7 _ _ ⟨⟨w4, F, hT4H.out⟩, rfl⟩ ?_
  clear hK7 K7
  refine wpActs_nil ?_
  go_wp2
  go_ret
  rw [hv.out]
  exact ⟨rfl, hS4H.out, (Turn.below hbW2.out).trans hT4H.out⟩
end
end Go.Proofs.YtjpmlneihbckpaaGreatDoor
/- The walks of package avl: balance. -/
set_option linter.unusedVariables false
set_option linter.unusedSimpArgs false
namespace Go.Proofs.YtjpmlneihbckpaaGreatDoor
open Go.RowKit Go.Shelf
theorem StoreIs.ok {w : World} {s : Nat} {F : Nat → Prop} {R : Nat → Option (List Nat)} {H : List Nat} {P q most last G : Nat} (h : StoreIs w s F R H P q most last G) (z : Nat) : (nodeG R z).Ok := by
  obtain ⟨n, hrd, _⟩ := h.rd
  exact hrd.nodeG z
theorem avLeft_lt {R : Nat → Option (List Nat)} {x : Nat} (h : ∀ z, (nodeG R z).Ok) : (avLeft R x).2 < 18446744073709551616 := (h x).right
theorem avRight_lt {R : Nat → Option (List Nat)} {x : Nat} (h : ∀ z, (nodeG R z).Ok) : (avRight R x).2 < 18446744073709551616 := (h x).left
section
variable {w w' : World} {s : Nat} {F : Nat → Prop} {R : Nat → Option (List Nat)} {H : List Nat} {P q most last G : Nat}
set_option maxHeartbeats 8000000 in
set_option maxRecDepth 100000 in
theorem avBal_at (h : StoreIs w s F R H P q most last G) (x : Nat) (hx : x < 18446744073709551616) :
    Calls Tryz.prog 160 #[.pointer (some ⟨s, 0, none⟩), .int .u64 (x : Nat)] w fun e w' => e = .returned (.int .u64 ((avBal R x).2 : Nat)) ∧ (avBal R x).2 < 18446744073709551616 ∧ StoreIs w' s F (avBal R x).1 H P q most last G ∧ Turn w F w' F := by
  have hmo : Tryz.prog.follows .mixedOrders = true := by kernel_rfl
  obtain ⟨n, hrd, _⟩ := h.rd
  obtain ⟨t, ht⟩ : ∃ t, nodeG R x = t := ⟨_, rfl⟩
  have hokt := hrd.nodeG x
  rw [ht] at hokt
  have hGt := Lib.hid (fun W (hb : Below w.heap.size w W) y (hy : y < 18446744073709551616) => by have := avGet_at (hrd.below hb) y hy; unfold treeV at this; exact this)
  have hHt := Lib.hid (fun W (hb : Below w.heap.size w W) y (hy : y < 18446744073709551616) => avHeight_at (hrd.below hb) y hy)
  have hokG := Lib.hid (fun y => hrd.nodeG y)
  have hHs := Lib.hid h
  have hoktH := Lib.hid hokt
  have hFwH := Lib.hid (fun b (hf : F b) => h.lt hf)
  have hv : avBal R x = if 1 < wrap64 (avH R t.left - avH R t.right) then
        if avH R (nodeG R t.left).left < avH R (nodeG R t.left).right then
          avRight (withR (avLeft R t.left).1 t x (avLeft R t.left).2 t.right) x
        else avRight R x
      else if wrap64 (avH R t.left - avH R t.right) < -1 then
        if avH R (nodeG R t.right).right < avH R (nodeG R t.right).left then
          avLeft (withR (avRight R t.right).1 t x t.left (avRight R t.right).2) x
        else avLeft R x
      else (R, x) := by
    unfold avBal
    rw [ht]
  obtain ⟨dd, hdd⟩ : ∃ dd, wrap64 (avH R t.left - avH R t.right) = dd := ⟨_, rfl⟩
  rw [hdd] at hv
  have hddH := Lib.hid hdd
  have hv0 := Lib.hid hv
  have hg1 := hGt.out w (Below.refl _ _) x hx
  rw [ht] at hg1
  have hg1H := Lib.hid hg1
  have hbr : Hid (Below w.heap.size w w) := Lib.hid (Below.refl _ _)
  clear h hrd hokt hg1 ht hv hdd
  go_enter Tryz.func160, Tryz.ntmps160
  go_wp2_with fail
  refine hg1H.out.mono ?_
  rintro e wg1 ⟨rfl, hbg⟩
  have hbg1 := Lib.hid (hbr.out.trans (hbg.mono hbr.out.size))
  have hzg1 := hbg1.out.size
  clear hbg
  go_wp2_with fail
  obtain ⟨W1, hW⟩ : ∃ W, W = wg1.alloc (Obj.cells #[.int .u64 (t.key : Nat), .int .u64 (t.val : Nat), .int .u64 (t.left : Nat), .int .u64 (t.right : Nat), .int .u64 (t.mark : Nat), .int .u64 (t.size : Nat), .int .u64 (x : Nat)] 224) := ⟨_, rfl⟩
  obtain ⟨b1, hb⟩ : ∃ b, b = wg1.heap.size := ⟨_, rfl⟩
  have hXb1 : Hid (Box W1 b1 224 [.int .u64 (t.key : Nat), .int .u64 (t.val : Nat), .int .u64 (t.left : Nat), .int .u64 (t.right : Nat), .int .u64 (t.mark : Nat), .int .u64 (t.size : Nat), .int .u64 (x : Nat)]) := Lib.hid (by rw [hW, hb]; exact Box.new wg1 224 [.int .u64 (t.key : Nat), .int .u64 (t.val : Nat), .int .u64 (t.left : Nat), .int .u64 (t.right : Nat), .int .u64 (t.mark : Nat), .int .u64 (t.size : Nat), .int .u64 (x : Nat)])
  have hBW1 : Hid (Below w.heap.size w W1) := Lib.hid (by rw [hW]; exact hbg1.out.alloc hzg1 _)
  have hFb1 : ¬ F b1 := fun hf => by have := hFwH.out b1 hf; omega
  rw [← hW, ← hb]
  clear hW hb hzg1 hbg1
  clear hg1H
  have c0 := fun X : Kp W1 F => Kp.cell (hXb1.out.at' (i := 0) rfl) hFb1 X
  have c1 := fun X : Kp W1 F => Kp.cell (hXb1.out.at' (i := 1) rfl) hFb1 X
  have c2 := fun X : Kp W1 F => Kp.cell (hXb1.out.at' (i := 2) rfl) hFb1 X
  have c3 := fun X : Kp W1 F => Kp.cell (hXb1.out.at' (i := 3) rfl) hFb1 X
  have c4 := fun X : Kp W1 F => Kp.cell (hXb1.out.at' (i := 4) rfl) hFb1 X
  have c5 := fun X : Kp W1 F => Kp.cell (hXb1.out.at' (i := 5) rfl) hFb1 X
  have c6 := fun X : Kp W1 F => Kp.cell (hXb1.out.at' (i := 6) rfl) hFb1 X
  refine wp_region_row (fun w' => ∃ X : Kp W1 F, w' = X.W) [0, 1, 2, 3, 5, 6, 7, 8] [4, 9, 10, 11] hmo (by kernel_rfl) rfl (by kernel_rfl) (Kp.start _ _) (fun _ _ d _ _ h => by cases d <;> exact h) ?_
  refine wpReads_step _ _ rfl rfl (by rintro _ ⟨X, rfl⟩; go_simp; exact rfl) ?_
  go_simp
  refine wpReads_step _ _ rfl rfl (by rintro _ ⟨X, rfl⟩; go_simp; exact rfl) ?_
  go_simp
  refine wpReads_step _ _ rfl rfl (by rintro _ ⟨X, rfl⟩; go_simp; exact rfl) ?_
  go_simp
  refine wpReads_step _ _ rfl rfl (by rintro _ ⟨X, rfl⟩; go_simp; exact rfl) ?_
  go_simp
  refine wpReads_step _ _ rfl rfl (by rintro _ ⟨X, rfl⟩; go_simp; exact rfl) ?_
  go_simp
  refine wpReads_step _ _ rfl rfl (by rintro _ ⟨X, rfl⟩; go_simp; exact rfl) ?_
  go_simp
  refine wpReads_step _ _ rfl rfl (by rintro _ ⟨X, rfl⟩; go_simp; exact rfl) ?_
  go_simp
  refine wpReads_step _ _ rfl rfl (by rintro _ ⟨X, rfl⟩; go_simp; exact rfl) ?_
  go_simp
  refine wpReads_nil ?_
  clear c0 c1 c2 c3 c4 c5 c6
  have hbd2 : Hid (Below w.heap.size w W1.drew) := Lib.hid (hBW1.out.trans ((below_drawn W1).mono hBW1.out.size))
  refine wpActs_step _ rfl (fun K1 hK1 => ?_)
  go_wp2_with fail
  refine (hHt.out _ hbd2.out t.left hoktH.out.left).mono ?_
  rintro e wa2 ⟨rfl, hba⟩
  have hba2 := Lib.hid (hbd2.out.trans (hba.mono hbd2.out.size))
  have hka2 : Hid (Below W1.heap.size W1 wa2) := Lib.hid ((below_drawn W1).trans hba)
  clear hba
  go_wp2
  refine hK1 _ _ ⟨⟨wa2, F, Turn.below hka2.out⟩, rfl⟩ ?_
  clear hK1 K1
  refine wpActs_step _ rfl (fun K2 hK2 => ?_)
  go_wp2_with fail
  refine (hHt.out _ hba2.out t.right hoktH.out.right).mono ?_
  rintro e wb2 ⟨rfl, hbb⟩
  have hbb2 := Lib.hid (hba2.out.trans (hbb.mono hba2.out.size))
  have hkb2 : Hid (Below W1.heap.size W1 wb2) := Lib.hid (hka2.out.trans (hbb.mono hka2.out.size))
  clear hbb
  go_wp2
  refine hK2 _ _ ⟨⟨wb2, F, Turn.below hkb2.out⟩, rfl⟩ ?_
  clear hK2 K2
  refine wpActs_step _ rfl (fun K3 hK3 => ?_)
  go_wp2
  rw [hddH.out]
  refine hK3 _ _ ⟨⟨wb2, F, Turn.below hkb2.out⟩, rfl⟩ ?_
  clear hK3 K3
  refine wpActs_step _ rfl (fun K4 hK4 => ?_)
  go_wp2
  refine hK4 _ _ ⟨⟨wb2, F, Turn.below hkb2.out⟩, rfl⟩ ?_
  clear hK4 K4
  refine wpActs_nil ?_
  have hXb1' := Lib.hid (hXb1.out.below hkb2.out)
  have hv := hv0.out
  clear hv0 hddH
  by_cases c1 : 1 < dd
  · have d1 : decide (1 < dd) = true := by simp; omega
    rw [if_pos c1] at hv
    have hoku := hokG.out t.left
    obtain ⟨u, hu⟩ : ∃ u, nodeG R t.left = u := ⟨_, rfl⟩
    rw [hu] at hoku hv
    have hGt := Lib.hid (fun W (hb : Below w.heap.size w W) y (hy : y < 18446744073709551616) => by have := hGt.out W hb y hy; exact this)
    have hokuH := Lib.hid hoku
    clear hoku
    have cl := hXb1'.out.at' (i := 2) rfl
    go_wp2_with fail
    clear cl
    have hg3 := hGt.out _ hbb2.out t.left hoktH.out.left
    rw [hu] at hg3
    have hg3H := Lib.hid hg3
    clear hg3 hu
    refine hg3H.out.mono ?_
    rintro e wg3 ⟨rfl, hbg⟩
    have hbg3 := Lib.hid (hbb2.out.trans (hbg.mono hbb2.out.size))
    have hzg3 := hbg3.out.size
    have hXb1'g := Lib.hid (hXb1'.out.below hbg)
    clear hbg
    go_wp2_with fail
    obtain ⟨W3, hW⟩ : ∃ W, W = wg3.alloc (Obj.cells #[.int .u64 (u.key : Nat), .int .u64 (u.val : Nat), .int .u64 (u.left : Nat), .int .u64 (u.right : Nat), .int .u64 (u.mark : Nat), .int .u64 (u.size : Nat), .int .u64 (t.left : Nat)] 224) := ⟨_, rfl⟩
    obtain ⟨b3, hb⟩ : ∃ b, b = wg3.heap.size := ⟨_, rfl⟩
    have hXb3 : Hid (Box W3 b3 224 [.int .u64 (u.key : Nat), .int .u64 (u.val : Nat), .int .u64 (u.left : Nat), .int .u64 (u.right : Nat), .int .u64 (u.mark : Nat), .int .u64 (u.size : Nat), .int .u64 (t.left : Nat)]) := Lib.hid (by rw [hW, hb]; exact Box.new wg3 224 [.int .u64 (u.key : Nat), .int .u64 (u.val : Nat), .int .u64 (u.left : Nat), .int .u64 (u.right : Nat), .int .u64 (u.mark : Nat), .int .u64 (u.size : Nat), .int .u64 (t.left : Nat)])
    have hBW3 : Hid (Below w.heap.size w W3) := Lib.hid (by rw [hW]; exact hbg3.out.alloc hzg3 _)
    have hXb1'w := Lib.hid (show Box W3 _ _ _ by rw [hW]; exact hXb1'g.out.alloc _)
    have hFb3 : ¬ F b3 := fun hf => by have := hFwH.out b3 hf; omega
    rw [← hW, ← hb]
    clear hW hb hzg3 hbg3
    have d0 := fun X : Kp W3 F => Kp.cell (hXb3.out.at' (i := 0) rfl) hFb3 X
    have d1 := fun X : Kp W3 F => Kp.cell (hXb3.out.at' (i := 1) rfl) hFb3 X
    have d2 := fun X : Kp W3 F => Kp.cell (hXb3.out.at' (i := 2) rfl) hFb3 X
    have d3 := fun X : Kp W3 F => Kp.cell (hXb3.out.at' (i := 3) rfl) hFb3 X
    have d4 := fun X : Kp W3 F => Kp.cell (hXb3.out.at' (i := 4) rfl) hFb3 X
    have d5 := fun X : Kp W3 F => Kp.cell (hXb3.out.at' (i := 5) rfl) hFb3 X
    have d6 := fun X : Kp W3 F => Kp.cell (hXb3.out.at' (i := 6) rfl) hFb3 X
    refine wp_region_row (fun w' => ∃ X : Kp W3 F, w' = X.W) [0, 1, 2, 3, 5, 6, 7, 8] [4, 9, 10] hmo (by kernel_rfl) rfl (by kernel_rfl) (Kp.start _ _) (fun _ _ d _ _ h => by cases d <;> exact h) ?_
    refine wpReads_step _ _ rfl rfl (by rintro _ ⟨X, rfl⟩; go_simp; exact rfl) ?_
    go_simp
    refine wpReads_step _ _ rfl rfl (by rintro _ ⟨X, rfl⟩; go_simp; exact rfl) ?_
    go_simp
    refine wpReads_step _ _ rfl rfl (by rintro _ ⟨X, rfl⟩; go_simp; exact rfl) ?_
    go_simp
    refine wpReads_step _ _ rfl rfl (by rintro _ ⟨X, rfl⟩; go_simp; exact rfl) ?_
    go_simp
    refine wpReads_step _ _ rfl rfl (by rintro _ ⟨X, rfl⟩; go_simp; exact rfl) ?_
    go_simp
    refine wpReads_step _ _ rfl rfl (by rintro _ ⟨X, rfl⟩; go_simp; exact rfl) ?_
    go_simp
    refine wpReads_step _ _ rfl rfl (by rintro _ ⟨X, rfl⟩; go_simp; exact rfl) ?_
    go_simp
    refine wpReads_step _ _ rfl rfl (by rintro _ ⟨X, rfl⟩; go_simp; exact rfl) ?_
    go_simp
    refine wpReads_nil ?_
    clear d0 d1 d2 d3 d4 d5 d6
    have hbd4 : Hid (Below w.heap.size w W3.drew) := Lib.hid (hBW3.out.trans ((below_drawn W3).mono hBW3.out.size))
    refine wpActs_step _ rfl (fun K1 hK1 => ?_)
    go_wp2_with fail
    refine (hHt.out _ hbd4.out u.left hokuH.out.left).mono ?_
    rintro e wa4 ⟨rfl, hba⟩
    have hba4 := Lib.hid (hbd4.out.trans (hba.mono hbd4.out.size))
    have hka4 : Hid (Below W3.heap.size W3 wa4) := Lib.hid ((below_drawn W3).trans hba)
    clear hba
    go_wp2
    refine hK1 _ _ ⟨⟨wa4, F, Turn.below hka4.out⟩, rfl⟩ ?_
    clear hK1 K1
    refine wpActs_step _ rfl (fun K2 hK2 => ?_)
    go_wp2_with fail
    refine (hHt.out _ hba4.out u.right hokuH.out.right).mono ?_
    rintro e wb4 ⟨rfl, hbb⟩
    have hbb4 := Lib.hid (hba4.out.trans (hbb.mono hba4.out.size))
    have hkb4 : Hid (Below W3.heap.size W3 wb4) := Lib.hid (hka4.out.trans (hbb.mono hka4.out.size))
    clear hbb
    go_wp2
    refine hK2 _ _ ⟨⟨wb4, F, Turn.below hkb4.out⟩, rfl⟩ ?_
    clear hK2 K2
    refine wpActs_step _ rfl (fun K3 hK3 => ?_)
    go_wp2
    refine hK3 _ _ ⟨⟨wb4, F, Turn.below hkb4.out⟩, rfl⟩ ?_
    clear hK3 K3
    refine wpActs_nil ?_
    have hXb3' := Lib.hid (hXb3.out.below hkb4.out)
    have hXb1 := Lib.hid (hXb1'w.out.below hkb4.out)
    have hRot := Lib.hid (fun W (hb : Below w.heap.size w W) => avLeft_at (hHs.out.below hb) t.left hoktH.out.left)
    by_cases c2 : avH R u.left < avH R u.right
    · have d2 : decide (avH R u.left < avH R u.right) = true := by simp; omega
      rw [d2]
      rw [if_pos c2] at hv
      have hvH := Lib.hid hv
      obtain ⟨R5, hR5⟩ : ∃ R5, (avLeft R t.left).1 = R5 := ⟨_, rfl⟩
      obtain ⟨y5, hy5⟩ : ∃ y5, (avLeft R t.left).2 = y5 := ⟨_, rfl⟩
      have hRotH := Lib.hid (hRot.out _ (hbb4.out.trans ((below_drawn wb4).mono hbb4.out.size)))
      rw [hR5, hy5] at hvH hRotH
      have hy5l : y5 < 18446744073709551616 := by rw [← hy5]; exact avLeft_lt (fun z => hokG.out z)
      clear hv c2 hRot hR5 hy5
      go_wp2_with fail
      have c0 := fun X : Kp wb4 F => Kp.cell (hXb1.out.at' (i := 0) rfl) hFb1 X
      have c1 := fun X : Kp wb4 F => Kp.cell (hXb1.out.at' (i := 1) rfl) hFb1 X
      have c2 := fun X : Kp wb4 F => Kp.cell (hXb1.out.at' (i := 2) rfl) hFb1 X
      have c3 := fun X : Kp wb4 F => Kp.cell (hXb1.out.at' (i := 3) rfl) hFb1 X
      have c4 := fun X : Kp wb4 F => Kp.cell (hXb1.out.at' (i := 4) rfl) hFb1 X
      have c5 := fun X : Kp wb4 F => Kp.cell (hXb1.out.at' (i := 5) rfl) hFb1 X
      have c6 := fun X : Kp wb4 F => Kp.cell (hXb1.out.at' (i := 6) rfl) hFb1 X
      have d0 := fun X : Kp wb4 F => Kp.cell (hXb3'.out.at' (i := 0) rfl) hFb3 X
      have d1 := fun X : Kp wb4 F => Kp.cell (hXb3'.out.at' (i := 1) rfl) hFb3 X
      have d2 := fun X : Kp wb4 F => Kp.cell (hXb3'.out.at' (i := 2) rfl) hFb3 X
      have d3 := fun X : Kp wb4 F => Kp.cell (hXb3'.out.at' (i := 3) rfl) hFb3 X
      have d4 := fun X : Kp wb4 F => Kp.cell (hXb3'.out.at' (i := 4) rfl) hFb3 X
      have d5 := fun X : Kp wb4 F => Kp.cell (hXb3'.out.at' (i := 5) rfl) hFb3 X
      have d6 := fun X : Kp wb4 F => Kp.cell (hXb3'.out.at' (i := 6) rfl) hFb3 X
      refine wp_region_row (fun w' => ∃ X : Kp wb4 F, w' = X.W) [0, 1, 2, 3, 4, 6, 7, 8] [5, 9] hmo (by kernel_rfl) rfl (by kernel_rfl) (Kp.start _ _) (fun _ _ d _ _ h => by cases d <;> exact h) ?_
      refine wpReads_step _ _ rfl rfl (by rintro _ ⟨X, rfl⟩; go_simp; exact rfl) ?_
      go_simp
      refine wpReads_step _ _ rfl rfl (by rintro _ ⟨X, rfl⟩; go_simp; exact rfl) ?_
      go_simp
      refine wpReads_step _ _ rfl rfl (by rintro _ ⟨X, rfl⟩; go_simp; exact rfl) ?_
      go_simp
      refine wpReads_step _ _ rfl rfl (by rintro _ ⟨X, rfl⟩; go_simp; exact rfl) ?_
      go_simp
      refine wpReads_step _ _ rfl rfl (by rintro _ ⟨X, rfl⟩; go_simp; exact rfl) ?_
      go_simp
      refine wpReads_step _ _ rfl rfl (by rintro _ ⟨X, rfl⟩; go_simp; exact rfl) ?_
      go_simp
      refine wpReads_step _ _ rfl rfl (by rintro _ ⟨X, rfl⟩; go_simp; exact rfl) ?_
      go_simp
      refine wpReads_step _ _ rfl rfl (by rintro _ ⟨X, rfl⟩; go_simp; exact rfl) ?_
      go_simp
      refine wpReads_nil ?_
      clear c0 c1 c2 c3 c4 c5 c6 d0 d1 d2 d3 d4 d5 d6
      refine wpActs_step _ rfl (fun K5 hK5 => ?_)
      have hRd := hRotH.out
      clear hRotH
      go_wp2_with fail
      have hdr := hRd
      clear hRd
      refine hdr.mono ?_
      rintro e w6 ⟨rfl, hS6, hT6⟩
      have hT6' : Turn wb4 F w6 F := (Turn.below (below_drawn wb4)).trans hT6
      have hwt := with_at hS6 t hoktH.out x y5 t.right hx hy5l hoktH.out.right
      unfold treeV at hwt
      have hwtH := Lib.hid hwt
      have hT6H := Lib.hid hT6'
      clear hS6 hT6 hT6' hwt hdr
      go_wp2
      refine hK5 _ _ ⟨⟨w6, F, hT6H.out⟩, rfl⟩ ?_
      clear hK5 K5
      refine wpActs_step _ rfl (fun K6 hK6 => ?_)
      go_wp2_with fail
      refine hwtH.out.mono ?_
      rintro e w7 ⟨rfl, hS7, hT7⟩
      have hT7H := Lib.hid (hT6H.out.trans hT7)
      have hfin := Lib.hid (avRight_at hS7 x hx)
      have hlt7 := avRight_lt (x := x) (fun z => hS7.ok z)
      clear hS7 hT7 hwtH
      go_wp2
      refine hK6 _ _ ⟨⟨w7, F, hT7H.out⟩, rfl⟩ ?_
      clear hK6 K6
      refine wpActs_nil ?_
      go_wp2_with fail
      refine hfin.out.mono ?_
      rintro e w8 ⟨rfl, hS8, hT8⟩
      have hS8H := Lib.hid hS8
      have hT8H := Lib.hid ((Turn.below (F := F) hbb4.out).trans (hT7H.out.trans hT8))
      clear hS8 hT8 hfin
      go_wp2
      go_ret
      rw [hvH.out]
      exact ⟨rfl, hlt7, hS8H.out, hT8H.out⟩
    · have d2 : decide (avH R u.left < avH R u.right) = false := by simp; omega
      rw [d2]
      rw [if_neg c2] at hv
      have hvH := Lib.hid hv
      have hfin := Lib.hid (avRight_at (hHs.out.below hbb4.out) x hx)
      clear hv c2 hRot
      go_wp2_with fail
      refine hfin.out.mono ?_
      rintro e w8 ⟨rfl, hS8, hT8⟩
      have hS8H := Lib.hid hS8
      have hT8H := Lib.hid ((Turn.below (F := F) hbb4.out).trans hT8)
      clear hS8 hT8 hfin
      go_wp2
      go_ret
      rw [hvH.out]
      exact ⟨rfl, avRight_lt (fun z => hokG.out z), hS8H.out, hT8H.out⟩
  · have d1 : decide (1 < dd) = false := by simp; omega
    rw [if_neg c1] at hv
    by_cases c3 : dd < -1
    · have d3 : decide (dd < -1) = true := by simp; omega
      rw [if_pos c3] at hv
      have hoku := hokG.out t.right
      obtain ⟨u, hu⟩ : ∃ u, nodeG R t.right = u := ⟨_, rfl⟩
      rw [hu] at hoku hv
      have hGt := Lib.hid (fun W (hb : Below w.heap.size w W) y (hy : y < 18446744073709551616) => by have := hGt.out W hb y hy; exact this)
      have hokuH := Lib.hid hoku
      clear hoku
      have cl := hXb1'.out.at' (i := 3) rfl
      go_wp2_with fail
      clear cl
      have hg3 := hGt.out _ hbb2.out t.right hoktH.out.right
      rw [hu] at hg3
      have hg3H := Lib.hid hg3
      clear hg3 hu
      refine hg3H.out.mono ?_
      rintro e wg3 ⟨rfl, hbg⟩
      have hbg3 := Lib.hid (hbb2.out.trans (hbg.mono hbb2.out.size))
      have hzg3 := hbg3.out.size
      have hXb1'g := Lib.hid (hXb1'.out.below hbg)
      clear hbg
      go_wp2_with fail
      obtain ⟨W3, hW⟩ : ∃ W, W = wg3.alloc (Obj.cells #[.int .u64 (u.key : Nat), .int .u64 (u.val : Nat), .int .u64 (u.left : Nat), .int .u64 (u.right : Nat), .int .u64 (u.mark : Nat), .int .u64 (u.size : Nat), .int .u64 (t.right : Nat)] 224) := ⟨_, rfl⟩
      obtain ⟨b3, hb⟩ : ∃ b, b = wg3.heap.size := ⟨_, rfl⟩
      have hXb3 : Hid (Box W3 b3 224 [.int .u64 (u.key : Nat), .int .u64 (u.val : Nat), .int .u64 (u.left : Nat), .int .u64 (u.right : Nat), .int .u64 (u.mark : Nat), .int .u64 (u.size : Nat), .int .u64 (t.right : Nat)]) := Lib.hid (by rw [hW, hb]; exact Box.new wg3 224 [.int .u64 (u.key : Nat), .int .u64 (u.val : Nat), .int .u64 (u.left : Nat), .int .u64 (u.right : Nat), .int .u64 (u.mark : Nat), .int .u64 (u.size : Nat), .int .u64 (t.right : Nat)])
      have hBW3 : Hid (Below w.heap.size w W3) := Lib.hid (by rw [hW]; exact hbg3.out.alloc hzg3 _)
      have hXb1'w := Lib.hid (show Box W3 _ _ _ by rw [hW]; exact hXb1'g.out.alloc _)
      have hFb3 : ¬ F b3 := fun hf => by have := hFwH.out b3 hf; omega
      rw [← hW, ← hb]
      clear hW hb hzg3 hbg3
      have d0 := fun X : Kp W3 F => Kp.cell (hXb3.out.at' (i := 0) rfl) hFb3 X
      have d1 := fun X : Kp W3 F => Kp.cell (hXb3.out.at' (i := 1) rfl) hFb3 X
      have d2 := fun X : Kp W3 F => Kp.cell (hXb3.out.at' (i := 2) rfl) hFb3 X
      have d3 := fun X : Kp W3 F => Kp.cell (hXb3.out.at' (i := 3) rfl) hFb3 X
      have d4 := fun X : Kp W3 F => Kp.cell (hXb3.out.at' (i := 4) rfl) hFb3 X
      have d5 := fun X : Kp W3 F => Kp.cell (hXb3.out.at' (i := 5) rfl) hFb3 X
      have d6 := fun X : Kp W3 F => Kp.cell (hXb3.out.at' (i := 6) rfl) hFb3 X
      refine wp_region_row (fun w' => ∃ X : Kp W3 F, w' = X.W) [0, 1, 2, 3, 5, 6, 7, 8] [4, 9, 10] hmo (by kernel_rfl) rfl (by kernel_rfl) (Kp.start _ _) (fun _ _ d _ _ h => by cases d <;> exact h) ?_
      refine wpReads_step _ _ rfl rfl (by rintro _ ⟨X, rfl⟩; go_simp; exact rfl) ?_
      go_simp
      refine wpReads_step _ _ rfl rfl (by rintro _ ⟨X, rfl⟩; go_simp; exact rfl) ?_
      go_simp
      refine wpReads_step _ _ rfl rfl (by rintro _ ⟨X, rfl⟩; go_simp; exact rfl) ?_
      go_simp
      refine wpReads_step _ _ rfl rfl (by rintro _ ⟨X, rfl⟩; go_simp; exact rfl) ?_
      go_simp
      refine wpReads_step _ _ rfl rfl (by rintro _ ⟨X, rfl⟩; go_simp; exact rfl) ?_
      go_simp
      refine wpReads_step _ _ rfl rfl (by rintro _ ⟨X, rfl⟩; go_simp; exact rfl) ?_
      go_simp
      refine wpReads_step _ _ rfl rfl (by rintro _ ⟨X, rfl⟩; go_simp; exact rfl) ?_
      go_simp
      refine wpReads_step _ _ rfl rfl (by rintro _ ⟨X, rfl⟩; go_simp; exact rfl) ?_
      go_simp
      refine wpReads_nil ?_
      clear d0 d1 d2 d3 d4 d5 d6
      have hbd4 : Hid (Below w.heap.size w W3.drew) := Lib.hid (hBW3.out.trans ((below_drawn W3).mono hBW3.out.size))
      refine wpActs_step _ rfl (fun K1 hK1 => ?_)
      go_wp2_with fail
      refine (hHt.out _ hbd4.out u.right hokuH.out.right).mono ?_
      rintro e wa4 ⟨rfl, hba⟩
      have hba4 := Lib.hid (hbd4.out.trans (hba.mono hbd4.out.size))
      have hka4 : Hid (Below W3.heap.size W3 wa4) := Lib.hid ((below_drawn W3).trans hba)
      clear hba
      go_wp2
      refine hK1 _ _ ⟨⟨wa4, F, Turn.below hka4.out⟩, rfl⟩ ?_
      clear hK1 K1
      refine wpActs_step _ rfl (fun K2 hK2 => ?_)
      go_wp2_with fail
      refine (hHt.out _ hba4.out u.left hokuH.out.left).mono ?_
      rintro e wb4 ⟨rfl, hbb⟩
      have hbb4 := Lib.hid (hba4.out.trans (hbb.mono hba4.out.size))
      have hkb4 : Hid (Below W3.heap.size W3 wb4) := Lib.hid (hka4.out.trans (hbb.mono hka4.out.size))
      clear hbb
      go_wp2
      refine hK2 _ _ ⟨⟨wb4, F, Turn.below hkb4.out⟩, rfl⟩ ?_
      clear hK2 K2
      refine wpActs_step _ rfl (fun K3 hK3 => ?_)
      go_wp2
      refine hK3 _ _ ⟨⟨wb4, F, Turn.below hkb4.out⟩, rfl⟩ ?_
      clear hK3 K3
      refine wpActs_nil ?_
      have hXb3' := Lib.hid (hXb3.out.below hkb4.out)
      have hXb1 := Lib.hid (hXb1'w.out.below hkb4.out)
      have hRot := Lib.hid (fun W (hb : Below w.heap.size w W) => avRight_at (hHs.out.below hb) t.right hoktH.out.right)
      by_cases c2 : avH R u.right < avH R u.left
      · have d2 : decide (avH R u.right < avH R u.left) = true := by simp; omega
        rw [d2]
        rw [if_pos c2] at hv
        have hvH := Lib.hid hv
        obtain ⟨R5, hR5⟩ : ∃ R5, (avRight R t.right).1 = R5 := ⟨_, rfl⟩
        obtain ⟨y5, hy5⟩ : ∃ y5, (avRight R t.right).2 = y5 := ⟨_, rfl⟩
        have hRotH := Lib.hid (hRot.out _ (hbb4.out.trans ((below_drawn wb4).mono hbb4.out.size)))
        rw [hR5, hy5] at hvH hRotH
        have hy5l : y5 < 18446744073709551616 := by rw [← hy5]; exact avRight_lt (fun z => hokG.out z)
        clear hv c2 hRot hR5 hy5
        go_wp2_with fail
        have c0 := fun X : Kp wb4 F => Kp.cell (hXb1.out.at' (i := 0) rfl) hFb1 X
        have c1 := fun X : Kp wb4 F => Kp.cell (hXb1.out.at' (i := 1) rfl) hFb1 X
        have c2 := fun X : Kp wb4 F => Kp.cell (hXb1.out.at' (i := 2) rfl) hFb1 X
        have c3 := fun X : Kp wb4 F => Kp.cell (hXb1.out.at' (i := 3) rfl) hFb1 X
        have c4 := fun X : Kp wb4 F => Kp.cell (hXb1.out.at' (i := 4) rfl) hFb1 X
        have c5 := fun X : Kp wb4 F => Kp.cell (hXb1.out.at' (i := 5) rfl) hFb1 X
        have c6 := fun X : Kp wb4 F => Kp.cell (hXb1.out.at' (i := 6) rfl) hFb1 X
        have d0 := fun X : Kp wb4 F => Kp.cell (hXb3'.out.at' (i := 0) rfl) hFb3 X
        have d1 := fun X : Kp wb4 F => Kp.cell (hXb3'.out.at' (i := 1) rfl) hFb3 X
        have d2 := fun X : Kp wb4 F => Kp.cell (hXb3'.out.at' (i := 2) rfl) hFb3 X
        have d3 := fun X : Kp wb4 F => Kp.cell (hXb3'.out.at' (i := 3) rfl) hFb3 X
        have d4 := fun X : Kp wb4 F => Kp.cell (hXb3'.out.at' (i := 4) rfl) hFb3 X
        have d5 := fun X : Kp wb4 F => Kp.cell (hXb3'.out.at' (i := 5) rfl) hFb3 X
        have d6 := fun X : Kp wb4 F => Kp.cell (hXb3'.out.at' (i := 6) rfl) hFb3 X
        refine wp_region_row (fun w' => ∃ X : Kp wb4 F, w' = X.W) [0, 1, 2, 3, 4, 5, 6, 7] [8, 9] hmo (by kernel_rfl) rfl (by kernel_rfl) (Kp.start _ _) (fun _ _ d _ _ h => by cases d <;> exact h) ?_
        refine wpReads_step _ _ rfl rfl (by rintro _ ⟨X, rfl⟩; go_simp; exact rfl) ?_
        go_simp
        refine wpReads_step _ _ rfl rfl (by rintro _ ⟨X, rfl⟩; go_simp; exact rfl) ?_
        go_simp
        refine wpReads_step _ _ rfl rfl (by rintro _ ⟨X, rfl⟩; go_simp; exact rfl) ?_
        go_simp
        refine wpReads_step _ _ rfl rfl (by rintro _ ⟨X, rfl⟩; go_simp; exact rfl) ?_
        go_simp
        refine wpReads_step _ _ rfl rfl (by rintro _ ⟨X, rfl⟩; go_simp; exact rfl) ?_
        go_simp
        refine wpReads_step _ _ rfl rfl (by rintro _ ⟨X, rfl⟩; go_simp; exact rfl) ?_
        go_simp
        refine wpReads_step _ _ rfl rfl (by rintro _ ⟨X, rfl⟩; go_simp; exact rfl) ?_
        go_simp
        refine wpReads_step _ _ rfl rfl (by rintro _ ⟨X, rfl⟩; go_simp; exact rfl) ?_
        go_simp
        refine wpReads_nil ?_
        clear c0 c1 c2 c3 c4 c5 c6 d0 d1 d2 d3 d4 d5 d6
        refine wpActs_step _ rfl (fun K5 hK5 => ?_)
        have hRd := hRotH.out
        clear hRotH
        go_wp2_with fail
        have hdr := hRd
        clear hRd
        refine hdr.mono ?_
        rintro e w6 ⟨rfl, hS6, hT6⟩
        have hT6' : Turn wb4 F w6 F := (Turn.below (below_drawn wb4)).trans hT6
        have hwt := with_at hS6 t hoktH.out x t.left y5 hx hoktH.out.left hy5l
        unfold treeV at hwt
        have hwtH := Lib.hid hwt
        have hT6H := Lib.hid hT6'
        clear hS6 hT6 hT6' hwt hdr
        go_wp2
        refine hK5 _ _ ⟨⟨w6, F, hT6H.out⟩, rfl⟩ ?_
        clear hK5 K5
        refine wpActs_step _ rfl (fun K6 hK6 => ?_)
        go_wp2_with fail
        refine hwtH.out.mono ?_
        rintro e w7 ⟨rfl, hS7, hT7⟩
        have hT7H := Lib.hid (hT6H.out.trans hT7)
        have hfin := Lib.hid (avLeft_at hS7 x hx)
        have hlt7 := avLeft_lt (x := x) (fun z => hS7.ok z)
        clear hS7 hT7 hwtH
        go_wp2
        refine hK6 _ _ ⟨⟨w7, F, hT7H.out⟩, rfl⟩ ?_
        clear hK6 K6
        refine wpActs_nil ?_
        go_wp2_with fail
        refine hfin.out.mono ?_
        rintro e w8 ⟨rfl, hS8, hT8⟩
        have hS8H := Lib.hid hS8
        have hT8H := Lib.hid ((Turn.below (F := F) hbb4.out).trans (hT7H.out.trans hT8))
        clear hS8 hT8 hfin
        go_wp2
        go_ret
        rw [hvH.out]
        exact ⟨rfl, hlt7, hS8H.out, hT8H.out⟩
      · have d2 : decide (avH R u.right < avH R u.left) = false := by simp; omega
        rw [d2]
        rw [if_neg c2] at hv
        have hvH := Lib.hid hv
        have hfin := Lib.hid (avLeft_at (hHs.out.below hbb4.out) x hx)
        clear hv c2 hRot
        go_wp2_with fail
        refine hfin.out.mono ?_
        rintro e w8 ⟨rfl, hS8, hT8⟩
        have hS8H := Lib.hid hS8
        have hT8H := Lib.hid ((Turn.below (F := F) hbb4.out).trans hT8)
        clear hS8 hT8 hfin
        go_wp2
        go_ret
        rw [hvH.out]
        exact ⟨rfl, avLeft_lt (fun z => hokG.out z), hS8H.out, hT8H.out⟩
    · have d3 : decide (dd < -1) = false := by simp; omega
      rw [if_neg c3] at hv
      have hvH := Lib.hid hv
      clear hv
      go_wp2
      go_ret
      rw [hvH.out]
      exact ⟨rfl, hx, hHs.out.below hbb2.out, Turn.below hbb2.out⟩
end
end Go.Proofs.YtjpmlneihbckpaaGreatDoor
/- The walks of package avl: Check. -/
set_option linter.unusedVariables false
set_option linter.unusedSimpArgs false
namespace Go.Proofs.YtjpmlneihbckpaaGreatDoor
open Go.RowKit Go.Shelf
/-- what Check finds wrong with a node: its height, its sides -/
def avBad1 (R : Nat → Option (List Nat)) (x : Nat) : Bool := (((nodeG R x).mark : Nat) : Int) != ((toU (wrap64 (max (avH R (nodeG R x).left) (avH R (nodeG R x).right) + 1)) : Nat) : Int)
def avBad2 (R : Nat → Option (List Nat)) (x : Nat) : Bool := decide (wrap64 (avH R (nodeG R x).right + 1) < avH R (nodeG R x).left)
def avBad3 (R : Nat → Option (List Nat)) (x : Nat) : Bool := decide (wrap64 (avH R (nodeG R x).left + 1) < avH R (nodeG R x).right)
def avBad (R : Nat → Option (List Nat)) (x : Nat) : Bool := avBad1 R x || avBad2 R x || avBad3 R x
/-- what Check answers -/
def acheckR (R : Nat → Option (List Nat)) (n root : Nat) : Nat := if checkR R n root ≠ 0 then checkR R n root else if (inR R n root).any (avBad R) then 8 else 0
section
variable {w w' : World} {s N : Nat} {R : Nat → Option (List Nat)} {n : Nat}
theorem Bel.start (w : World) : ∃ X : Bel w, { w with drawn := w.drawn + 1 } = X.W := ⟨⟨_, below_drawn w⟩, rfl⟩
set_option maxHeartbeats 4000000 in
set_option maxRecDepth 100000 in
theorem avCheck_at (h : Rd N w s R n) (hsh : Short R) (x : Nat) (hx : x < 18446744073709551616) :
    Calls Tryz.prog 125 #[.pointer (some ⟨s, 0, none⟩), .int .u64 (x : Nat)] w fun e w' => e = .returned (.int .i64 (acheckR R n x : Nat)) ∧ Below w.heap.size w w' := by
  have hmo : Tryz.prog.follows .mixedOrders = true := by kernel_rfl
  have hCk := check_at h hsh x hx
  have hLi := Lib.hid (fun W (hb : Below w.heap.size w W) => list_at (h.below hb) x hx)
  have hGt := Lib.hid (fun W (hb : Below w.heap.size w W) y (hy : y < 18446744073709551616) => by have := avGet_at (h.below hb) y hy; unfold treeV at this; exact this)
  have hHt := Lib.hid (fun W (hb : Below w.heap.size w W) y (hy : y < 18446744073709551616) => avHeight_at (h.below hb) y hy)
  have hokG := Lib.hid (fun y => h.nodeG y)
  have hlen := inR_len R n x
  have hnle := h.le
  have hLlt := Lib.hid (fun y (hy : y ∈ inR R n x) => inR_lt (fun z => h.nodeG z) hx y hy)
  obtain ⟨c, hc⟩ : ∃ c, checkR R n x = c := ⟨_, rfl⟩
  have hv : acheckR R n x = if c ≠ 0 then c else if (inR R n x).any (avBad R) then 8 else 0 := by unfold acheckR; rw [hc]
  have hc9 : c = 0 ∨ c = 8 := by rw [← hc]; exact checkR_val R n x
  rw [hc] at hCk
  have hCkH := Lib.hid hCk
  generalize inR R n x = L at *
  clear hCk hc
  by_cases hc0 : c = 0
  · have dc : ((c : Int) != 0) = false := by rw [hc0]; rfl
    rw [if_neg (by simp [hc0])] at hv
    have hvH := Lib.hid hv
    clear hv hc0 hc9 h hsh
    go_enter Tryz.func125, Tryz.ntmps125
    go_wp2_with fail
    refine hCkH.out.mono ?_
    rintro e w1 ⟨rfl, hb1⟩
    have hb1H := Lib.hid hb1
    clear hb1 hCkH
    go_wp2_with fail
    refine (hLi.out _ hb1H.out).mono ?_
    rintro e w2 ⟨v, rfl, hro, hb2⟩
    obtain ⟨A2, c2, rfl⟩ := ownsRow_form hro
    have hb2H := Lib.hid (hb1H.out.trans (hb2.mono hb1H.out.size))
    have hcl : Hid (∀ i (hi : i < L.length), ∃ g, A2 = some ⟨g, 0, none⟩ ∧ ∀ W, Below w2.heap.size w2 W → W.cell? ⟨g, i, none⟩ = some (.int .u64 (L[i] : Nat))) := Lib.hid (fun i hi => by
      obtain ⟨g, cap, hv⟩ := row_pos hro (by omega)
      cases hv
      refine ⟨g, rfl, fun W hb => ?_⟩
      have h1 := hro.cells (g := g) rfl i (.int .u64 (L[i] : Nat)) (by rw [hsV, List.getElem?_map, List.getElem?_eq_getElem hi]; rfl)
      rw [show (⟨g, 0, none⟩ : Addr).add i = ⟨g, i, none⟩ by unfold Addr.add; split <;> simp_all] at h1
      exact (hb.cell (p := ⟨g, i, none⟩) (cell_lt h1)).trans h1)
    clear hro hb2 hLi hb1H
    go_wp2_with fail
    go_loopw [21] (fun iv wr => ∃ k : Nat, k ≤ L.length ∧ iv = .int .i64 k ∧ Hid (Below w2.heap.size w2 wr) ∧ Hid ((L.take k).any (avBad R) = false)) (fun iv _ => L.length - (intOf iv).toNat)
    case atStart => exact ⟨0, by omega, rfl, Lib.hid (Below.refl _ _), Lib.hid (by simp)⟩
    case round =>
      obtain ⟨k, hk, rfl, hbr, hpre⟩ := hrel
      by_cases hlt : k < L.length
      · obtain ⟨g, hA, hg⟩ := hcl.out k hlt
        subst hA
        have hc0 := hg wr hbr.out
        have hylt := hLlt.out L[k] (List.getElem_mem hlt)
        have hnx : Hid ((L.take (k + 1)).any (avBad R) = avBad R L[k]) := Lib.hid (by rw [List.take_succ_eq_append_getElem hlt, List.any_append, hpre.out]; simp)
        have hall : Hid (avBad R L[k] = true → L.any (avBad R) = true) := Lib.hid (fun hb => List.any_eq_true.2 ⟨_, List.getElem_mem hlt, hb⟩)
        obtain ⟨y, hy⟩ : ∃ y, L[k] = y := ⟨_, rfl⟩
        rw [hy] at hc0 hylt hnx hall
        have hbwr := Lib.hid (hb2H.out.trans (hbr.out.mono hb2H.out.size))
        obtain ⟨t, ht⟩ : ∃ t, nodeG R y = t := ⟨_, rfl⟩
        have hg3 := hGt.out wr hbwr.out y hylt
        have hokt := hokG.out y
        have hbd1 : avBad1 R y = (((t.mark : Nat) : Int) != ((toU (wrap64 (max (avH R t.left) (avH R t.right) + 1)) : Nat) : Int)) := by unfold avBad1; rw [ht]
        have hbd2 : avBad2 R y = decide (wrap64 (avH R t.right + 1) < avH R t.left) := by unfold avBad2; rw [ht]
        have hbd3 : avBad3 R y = decide (wrap64 (avH R t.left + 1) < avH R t.right) := by unfold avBad3; rw [ht]
        have hbd : avBad R y = (avBad1 R y || avBad2 R y || avBad3 R y) := rfl
        rw [hbd1, hbd2, hbd3] at hbd
        rw [← wrapU] at hbd
        rw [ht] at hg3 hokt
        have hg3H := Lib.hid hg3
        have hoktH := Lib.hid hokt
        have hbdH := Lib.hid hbd
        clear hg3 hokt ht hy hbd hbd1 hbd2 hbd3 hg hcl
        go_wp2_with fail
        refine hg3H.out.mono ?_
        rintro e w3 ⟨rfl, hb3⟩
        have hb3H := Lib.hid (hbwr.out.trans (hb3.mono hbwr.out.size))
        have hbr3 := Lib.hid (hbr.out.trans (hb3.mono hbr.out.size))
        have hz3 := hbr3.out.size
        have hz4 := hb3H.out.size
        clear hb3 hg3H hc0
        go_wp2_with fail
        obtain ⟨W3, hW⟩ : ∃ W, W = w3.alloc (Obj.cells #[.int .u64 (t.key : Nat), .int .u64 (t.val : Nat), .int .u64 (t.left : Nat), .int .u64 (t.right : Nat), .int .u64 (t.mark : Nat), .int .u64 (t.size : Nat), .int .u64 (y : Nat)] 224) := ⟨_, rfl⟩
        obtain ⟨b3, hb⟩ : ∃ b, b = w3.heap.size := ⟨_, rfl⟩
        have hX3 : Hid (Box W3 b3 224 [.int .u64 (t.key : Nat), .int .u64 (t.val : Nat), .int .u64 (t.left : Nat), .int .u64 (t.right : Nat), .int .u64 (t.mark : Nat), .int .u64 (t.size : Nat), .int .u64 (y : Nat)]) := Lib.hid (by rw [hW, hb]; exact Box.new w3 224 [.int .u64 (t.key : Nat), .int .u64 (t.val : Nat), .int .u64 (t.left : Nat), .int .u64 (t.right : Nat), .int .u64 (t.mark : Nat), .int .u64 (t.size : Nat), .int .u64 (y : Nat)])
        have hBW3 : Hid (Below w.heap.size w W3) := Lib.hid (by rw [hW]; exact hb3H.out.alloc hz4 _)
        have hBr3 : Hid (Below w2.heap.size w2 W3) := Lib.hid (by rw [hW]; exact hbr3.out.alloc hz3 _)
        rw [← hW, ← hb]
        clear hW hb hz3 hz4 hb3H hbr3
        have c2 := fun X : Bel W3 => X.cell (hX3.out.at' (i := 2) rfl)
        have c3 := fun X : Bel W3 => X.cell (hX3.out.at' (i := 3) rfl)
        refine wp_region_row (fun w' => ∃ X : Bel W3, w' = X.W) [0, 1, 2, 3, 5, 6, 7, 8] [4, 9, 10, 11] hmo (by kernel_rfl) rfl (by kernel_rfl) (Bel.start _) (fun _ _ d _ _ h => by cases d <;> exact h) ?_
        refine wpReads_step _ _ rfl rfl (by rintro _ ⟨X, rfl⟩; go_simp; exact rfl) ?_
        go_simp
        refine wpReads_step _ _ rfl rfl (by rintro _ ⟨X, rfl⟩; go_simp; exact rfl) ?_
        go_simp
        refine wpReads_step _ _ rfl rfl (by rintro _ ⟨X, rfl⟩; go_simp; exact rfl) ?_
        go_simp
        refine wpReads_step _ _ rfl rfl (by rintro _ ⟨X, rfl⟩; go_simp; exact rfl) ?_
        go_simp
        refine wpReads_step _ _ rfl rfl (by rintro _ ⟨X, rfl⟩; go_simp; exact rfl) ?_
        go_simp
        refine wpReads_step _ _ rfl rfl (by rintro _ ⟨X, rfl⟩; go_simp; exact rfl) ?_
        go_simp
        refine wpReads_step _ _ rfl rfl (by rintro _ ⟨X, rfl⟩; go_simp; exact rfl) ?_
        go_simp
        refine wpReads_step _ _ rfl rfl (by rintro _ ⟨X, rfl⟩; go_simp; exact rfl) ?_
        go_simp
        refine wpReads_nil ?_
        clear c2 c3
        have hbd4 : Hid (Below w.heap.size w W3.drew) := Lib.hid (hBW3.out.trans ((below_drawn W3).mono hBW3.out.size))
        refine wpActs_step _ rfl (fun K1 hK1 => ?_)
        go_wp2_with fail
        refine (hHt.out _ hbd4.out t.left hoktH.out.left).mono ?_
        rintro e w4 ⟨rfl, hb4⟩
        have hb4H := Lib.hid (hbd4.out.trans (hb4.mono hbd4.out.size))
        have hk4 : Hid (Below W3.heap.size W3 w4) := Lib.hid ((below_drawn W3).trans hb4)
        clear hb4
        go_wp2
        refine hK1 _ _ ⟨⟨w4, hk4.out⟩, rfl⟩ ?_
        clear hK1 K1
        refine wpActs_step _ rfl (fun K2 hK2 => ?_)
        go_wp2_with fail
        refine (hHt.out _ hb4H.out t.right hoktH.out.right).mono ?_
        rintro e w5 ⟨rfl, hb5⟩
        have hk5 : Hid (Below W3.heap.size W3 w5) := Lib.hid (hk4.out.trans (hb5.mono hk4.out.size))
        clear hb5
        go_wp2
        refine hK2 _ _ ⟨⟨w5, hk5.out⟩, rfl⟩ ?_
        clear hK2 K2
        refine wpActs_step _ rfl (fun K3 hK3 => ?_)
        go_wp2
        refine hK3 _ _ ⟨⟨w5, hk5.out⟩, rfl⟩ ?_
        clear hK3 K3
        refine wpActs_step _ rfl (fun K4 hK4 => ?_)
        go_wp2
        refine hK4 _ _ ⟨⟨w5, hk5.out⟩, rfl⟩ ?_
        clear hK4 K4
        refine wpActs_nil ?_
        have c4 := (hX3.out.below hk5.out).at' (i := 4) rfl
        have hBr5 := Lib.hid (hBr3.out.trans (hk5.out.mono hBr3.out.size))
        have hB5 := Lib.hid (hb2H.out.trans (hBr5.out.mono hb2H.out.size))
        clear hX3 hk4 hk5 hb4H hbd4
        cases m1 : (((t.mark : Nat) : Int) != IntKind.u64.wrap (wrap64 (max (avH R t.left) (avH R t.right) + 1))) with
        | true =>
          have hb9 := hbdH.out
          rw [m1] at hb9
          have hfin := Lib.hid (hall.out hb9)
          clear hb9
          go_wp2
          go_ret
          rw [hvH.out, if_pos hfin.out]
          exact ⟨rfl, hB5.out⟩
        | false =>
          cases m2 : decide (wrap64 (avH R t.right + 1) < avH R t.left) with
          | true =>
            have hb9 := hbdH.out
            rw [m1, m2] at hb9
            have hfin := Lib.hid (hall.out hb9)
            clear hb9
            go_wp2
            go_ret
            rw [hvH.out, if_pos hfin.out]
            exact ⟨rfl, hB5.out⟩
          | false =>
            cases m3 : decide (wrap64 (avH R t.left + 1) < avH R t.right) with
            | true =>
              have hb9 := hbdH.out
              rw [m1, m2, m3] at hb9
              have hfin := Lib.hid (hall.out hb9)
              clear hb9
              go_wp2
              go_ret
              rw [hvH.out, if_pos hfin.out]
              exact ⟨rfl, hB5.out⟩
            | false =>
              have hb9 := hbdH.out
              rw [m1, m2, m3] at hb9
              have hfin := Lib.hid (hnx.out.trans hb9)
              clear hb9
              go_wp2
              go_roundw
              case rel => exact ⟨k + 1, by omega, by go_num, hBr5, hfin⟩
              case measure => simp [intOf]; omega
      · obtain rfl : k = L.length := by omega
        have hfin : Hid (L.any (avBad R) = false) := Lib.hid (by have := hpre.out; rw [List.take_length] at this; exact this)
        go_wp2
        go_ret
        rw [hvH.out, if_neg (by rw [hfin.out]; simp)]
        exact ⟨rfl, hb2H.out.trans (hbr.out.mono hb2H.out.size)⟩
  · have hc8 : c = 8 := by omega
    have dc : ((c : Int) != 0) = true := by rw [hc8]; rfl
    rw [if_pos hc0] at hv
    have hvH := Lib.hid hv
    clear hv hc0 hc9 hc8 h hsh
    go_enter Tryz.func125, Tryz.ntmps125
    go_wp2_with fail
    refine hCkH.out.mono ?_
    rintro e w1 ⟨rfl, hb1⟩
    have hb1H := Lib.hid hb1
    clear hb1 hCkH
    go_wp2
    go_ret
    rw [hvH.out]
    exact ⟨rfl, hb1H.out⟩
end
end Go.Proofs.YtjpmlneihbckpaaGreatDoor
/- The walks of package redblack: a joiner's join. -/
set_option linter.unusedVariables false
set_option linter.unusedSimpArgs false
namespace Go.Proofs.YtjpmlneihbckpaaGreatDoor
open Go.RowKit Go.Shelf
theorem rbSides_lt {N n s : Nat} {w : World} {R : Nat → Option (List Nat)} (h : Rd N w s R n) (tn : Bool) (x : Nat) : (rbSides R tn x).1 < 18446744073709551616 ∧ (rbSides R tn x).2 < 18446744073709551616 := by
  have := h.nodeG x
  unfold rbSides
  cases tn
  · exact ⟨this.left, this.right⟩
  · exact ⟨this.right, this.left⟩
/-- what join does behind the join below -/
def rbStep2 (tn : Bool) (R1 : Nat → Option (List Nat)) (t ot y : Nat) : (Nat → Option (List Nat)) × Nat :=
  if rbRed R1 y = false then (R1, t) else if rbRed R1 (rbSides R1 tn y).2 = false then (R1, t)
  else (rbPutT (rbPutT (rbPutT R1 tn (rbSides R1 tn y).2 (rbSides R1 tn (rbSides R1 tn y).2).1 (rbSides R1 tn (rbSides R1 tn y).2).2 false) tn t ot (rbSides R1 tn y).1 false) tn y t (rbSides R1 tn y).2 true, y)
def rbStep (tn : Bool) (t ot : Nat) (is : Bool) (p : (Nat → Option (List Nat)) × Nat) : (Nat → Option (List Nat)) × Nat :=
  if is = true then (rbPutT p.1 tn t ot p.2 is, t) else rbStep2 tn (rbPutT p.1 tn t ot p.2 is) t ot p.2
theorem rbJoin_succ (tn : Bool) (m low f : Nat) (R : Nat → Option (List Nat)) (t : Nat) : rbJoin tn m low (f + 1) R t = if rbRed R t = false ∧ rbB R t = rbB R low then (rbPutT R tn m t low true, m) else rbStep tn t (rbSides R tn t).1 (rbRed R t) (rbJoin tn m low f R (rbSides R tn t).2) := by
  rw [rbJoin]
  unfold rbStep rbStep2
  simp only
  generalize rbJoin tn m low f R (rbSides R tn t).2 = p
  cases rbRed R t <;> simp
section
variable {s : Nat} {F : Nat → Prop} {H : List Nat} {P q most last G : Nat}
set_option maxHeartbeats 8000000 in
set_option maxRecDepth 100000 in
theorem rbJoin_at (tn : Bool) (m low : Nat) (hm : m < 18446744073709551616) (hlow : low < 18446744073709551616) : ∀ (f : Nat) (w : World) (R : Nat → Option (List Nat)) (t : Nat), f ≤ 200 → t < 18446744073709551616 → StoreIs w s F R H P q most last G →
    Calls Tryz.prog 84 #[.agg #[.pointer (some ⟨s, 0, none⟩), .bool tn], .int .u64 (t : Nat), .int .u64 (m : Nat), .int .u64 (low : Nat), .int .i64 ((200 - f : Nat) : Int)] w fun e w' => e = .returned (.int .u64 ((rbJoin tn m low f R t).2 : Nat)) ∧ (rbJoin tn m low f R t).2 < 18446744073709551616 ∧ StoreIs w' s F (rbJoin tn m low f R t).1 H P q most last G ∧ Turn w F w' F
  | 0, w, R, t, hf, ht, h => by
    have hmo : Tryz.prog.follows .mixedOrders = true := by kernel_rfl
    have hX0 := Box.new w 104 [.pointer (some ⟨s, 0, none⟩), .bool tn]
    obtain ⟨W0, hW0⟩ : ∃ W, W = w.alloc (Obj.cells #[.pointer (some ⟨s, 0, none⟩), .bool tn] 104) := ⟨_, rfl⟩
    have hb0 : Below w.heap.size w W0 := by rw [hW0]; exact (Below.refl _ w).alloc (Nat.le_refl _) _
    rw [← hW0] at hX0
    have hFb0 : ¬ F w.heap.size := fun hf => by have := h.lt hf; omega
    have hS0 := h.below hb0
    obtain ⟨n0, hr0, _⟩ := hS0.rd
    have hX0H := Lib.hid hX0
    have hT0H : Hid (Turn w F W0 F) := Lib.hid (Turn.below hb0)
    have hW0H := Lib.hid hW0
    have hS0H := Lib.hid hS0
    have hr0H := Lib.hid hr0
    clear h hX0 hb0 hW0 hS0 hr0
    have hvH : Hid (rbJoin tn m low 0 R t = (rbPutT R tn m t low true, m)) := Lib.hid rfl
    show Calls Tryz.prog 84 #[.agg #[.pointer (some ⟨s, 0, none⟩), .bool tn], .int .u64 (t : Nat), .int .u64 (m : Nat), .int .u64 (low : Nat), .int .i64 200] w _
    go_enter Tryz.func84, Tryz.ntmps84
    go_wp2_with fail
    rw [← hW0H.out]
    have x0 := fun X : Bel W0 => X.cell (hX0H.out.at' (i := 0) rfl)
    have x1 := fun X : Bel W0 => X.cell (hX0H.out.at' (i := 1) rfl)
    refine wp_region_calm (by kernel_rfl) (by kernel_rfl) ?_
    repeat (go_big_quiet_step (fail))
    refine wpQuiet_nil ?_
    rintro _ ⟨X, rfl⟩
    have hbX := Lib.hid X.h
    generalize X.W = W1 at *
    clear x0 x1
    have hX1H := Lib.hid (hX0H.out.below hbX.out)
    have hS1H := Lib.hid (hS0H.out.below hbX.out)
    have hT1H := Lib.hid (hT0H.out.trans (Turn.below (F := F) hbX.out))
    clear hX0H hS0H hT0H hr0H hbX
    have c0 := hX1H.out.at' (i := 0) rfl
    have c1 := hX1H.out.at' (i := 1) rfl
    have hP := Lib.hid (rbPutT_at hS1H.out tn m t low hm ht hlow true)
    go_wp2_with fail
    refine hP.out.mono ?_
    rintro e W2 ⟨rfl, hS, hT⟩
    have hX2H := Lib.hid (hX1H.out.turn hT hFb0)
    have hT2H := Lib.hid (hT1H.out.trans hT)
    have hS2H := Lib.hid hS
    clear hS hT hP c0 c1 hX1H hT1H hS1H
    go_wp2
    go_ret
    rw [hvH.out]
    exact ⟨rfl, hm, hS2H.out, hT2H.out⟩
  | f + 1, w, R, t, hf, ht, h => by
    have hmo : Tryz.prog.follows .mixedOrders = true := by kernel_rfl
    have hX0 := Box.new w 104 [.pointer (some ⟨s, 0, none⟩), .bool tn]
    obtain ⟨W0, hW0⟩ : ∃ W, W = w.alloc (Obj.cells #[.pointer (some ⟨s, 0, none⟩), .bool tn] 104) := ⟨_, rfl⟩
    have hb0 : Below w.heap.size w W0 := by rw [hW0]; exact (Below.refl _ w).alloc (Nat.le_refl _) _
    rw [← hW0] at hX0
    have hFb0 : ¬ F w.heap.size := fun hf => by have := h.lt hf; omega
    have hS0 := h.below hb0
    obtain ⟨n0, hr0, _⟩ := hS0.rd
    have hX0H := Lib.hid hX0
    have hT0H : Hid (Turn w F W0 F) := Lib.hid (Turn.below hb0)
    have hW0H := Lib.hid hW0
    have hS0H := Lib.hid hS0
    have hr0H := Lib.hid hr0
    have hdn : Hid (((200 - f : Nat) : Int) = ((200 - (f + 1) : Nat) : Int) + 1) := Lib.hid (by omega)
    have hd0 : (((200 - (f + 1) : Nat) : Int) == 200) = false := by simp; omega
    obtain ⟨d, hd⟩ : ∃ d, d = 200 - (f + 1) := ⟨_, rfl⟩
    rw [← hd] at hdn hd0 ⊢
    have hdl : d < 200 := by omega
    clear hd
    have ih := fun w R t => rbJoin_at tn m low hm hlow f w R t
    have hv := rbJoin_succ tn m low f R t
    have hq1 := fun X : Bel W0 => rbRed_at (hr0.below X.h) t ht
    have hq2 := fun X : Bel W0 => rbBlack_at (hr0.below X.h) t ht
    have hq3 := fun X : Bel W0 => rbBlack_at (hr0.below X.h) low hlow
    obtain ⟨oo, ho⟩ : ∃ p, rbSides R tn t = p := ⟨_, rfl⟩
    have hol := rbSides_lt hr0 tn t
    rw [ho] at hol hv
    obtain ⟨ot, ow⟩ := oo
    simp only at hol hv
    obtain ⟨hot, how⟩ := hol
    have hoH := Lib.hid ho
    clear h hX0 hb0 hW0 hS0 hr0 ho
    obtain ⟨b1, hb1⟩ : ∃ b, rbB R t = b := ⟨_, rfl⟩
    obtain ⟨b2, hb2⟩ : ∃ b, rbB R low = b := ⟨_, rfl⟩
    simp only [hb1] at hq2
    simp only [hb2] at hq3
    rw [hb1, hb2] at hv
    clear hb1 hb2
    cases his : rbRed R t with
    | true =>
      have hc : ¬ (rbRed R t = false ∧ b1 = b2) := fun h => by rw [his] at h; cases h.1
      rw [if_neg hc, his] at hv
      simp only [his] at hq1
      have hisH := Lib.hid his
      clear his hc
      go_enter Tryz.func84, Tryz.ntmps84
      go_wp2_with fail
      rw [← hW0H.out]
      have x0 := fun X : Bel W0 => X.cell (hX0H.out.at' (i := 0) rfl)
      have x1 := fun X : Bel W0 => X.cell (hX0H.out.at' (i := 1) rfl)
      refine wp_region_calm (by kernel_rfl) (by kernel_rfl) ?_
      repeat (go_big_quiet_step ((first | (go_at_call 53; exact calls_calm (hq1 _)) | (go_at_call 52; exact calls_calm (hq2 _)) | (go_at_call 52; exact calls_calm (hq3 _)))))
      refine wpQuiet_nil ?_
      rintro _ ⟨X, rfl⟩
      have hbX := Lib.hid X.h
      generalize X.W = W1 at *
      clear x0 x1
      have hX1H := Lib.hid (hX0H.out.below hbX.out)
      have hS1H := Lib.hid (hS0H.out.below hbX.out)
      have hT1H := Lib.hid (hT0H.out.trans (Turn.below (F := F) hbX.out))
      clear hX0H hS0H hT0H hr0H hbX
      clear hq1 hq2 hq3
      obtain ⟨nr1, hr1, _⟩ := hS1H.out.rd
      have hr1H := Lib.hid hr1
      clear hr1
      have c0 := hX1H.out.at' (i := 0) rfl
      have c1 := hX1H.out.at' (i := 1) rfl
      have hQ := Lib.hid (by have := rbSides_at hr1H.out tn t ht; rw [hoH.out] at this; exact this)
      go_wp2_with fail
      refine hQ.out.mono ?_
      rintro e W2 ⟨rfl, hb⟩
      have hX2H := Lib.hid (hX1H.out.below hb)
      have hS2H := Lib.hid (hS1H.out.below hb)
      have hT2H := Lib.hid (hT1H.out.trans (Turn.below (F := F) hb))
      clear hb hQ c0 c1 hX1H hS1H hT1H
      clear hr1H
      obtain ⟨nr2, hr2, _⟩ := hS2H.out.rd
      have hr2H := Lib.hid hr2
      clear hr2
      have c0 := hX2H.out.at' (i := 0) rfl
      have c1 := hX2H.out.at' (i := 1) rfl
      have hQ := Lib.hid (by have := rbRed_at hr2H.out t ht; rw [hisH.out] at this; exact this)
      go_wp2_with fail
      refine hQ.out.mono ?_
      rintro e W3 ⟨rfl, hb⟩
      have hX3H := Lib.hid (hX2H.out.below hb)
      have hS3H := Lib.hid (hS2H.out.below hb)
      have hT3H := Lib.hid (hT2H.out.trans (Turn.below (F := F) hb))
      clear hb hQ c0 c1 hX2H hS2H hT2H
      clear hr2H
      have c0 := hX3H.out.at' (i := 0) rfl
      have c1 := hX3H.out.at' (i := 1) rfl
      have hih := ih W3 R ow (by omega) how hS3H.out
      rw [hdn.out] at hih
      generalize rbJoin tn m low f R ow = p at *
      obtain ⟨Ra, y⟩ := p
      simp only at hih hv
      have hihH := Lib.hid hih
      have hvH := Lib.hid hv
      clear hih hv
      go_wp2_with fail
      refine hihH.out.mono ?_
      rintro e W4 ⟨rfl, hy, hS, hT⟩
      have hX4H := Lib.hid (hX3H.out.turn hT hFb0)
      have hT4H := Lib.hid (hT3H.out.trans hT)
      have hS4H := Lib.hid hS
      clear hS hT hihH c0 c1 hX3H hT3H hS3H
      have c0 := hX4H.out.at' (i := 0) rfl
      have c1 := hX4H.out.at' (i := 1) rfl
      have hP := Lib.hid (rbPutT_at hS4H.out tn t ot y ht hot hy true)
      go_wp2_with fail
      refine hP.out.mono ?_
      rintro e W5 ⟨rfl, hS, hT⟩
      have hX5H := Lib.hid (hX4H.out.turn hT hFb0)
      have hT5H := Lib.hid (hT4H.out.trans hT)
      obtain ⟨Rb, hRb⟩ : ∃ Q, Q = rbPutT Ra tn t ot y true := ⟨_, rfl⟩
      rw [← hRb] at hS
      have hRbH := Lib.hid hRb
      clear hRb
      have hS5H := Lib.hid hS
      clear hS hT hP c0 c1 hX4H hT4H hS4H
      have hvH2 : Hid (rbJoin tn m low (f + 1) R t = (Rb, t)) := Lib.hid (by rw [hvH.out, hRbH.out]; rfl)
      clear hvH hRbH
      have hvH := hvH2
      clear hvH2
      have c0 := hX5H.out.at' (i := 0) rfl
      have c1 := hX5H.out.at' (i := 1) rfl
      go_wp2
      go_ret
      rw [hvH.out]
      exact ⟨rfl, ht, hS5H.out, hT5H.out⟩
    | false =>
      simp only [his] at hq1
      by_cases hbb : b1 = b2
      · have hc : (rbRed R t = false ∧ b1 = b2) := ⟨his, hbb⟩
        rw [if_pos hc] at hv
        have hvH := Lib.hid hv
        have de : ((b1 : Int) == (b2 : Int)) = true := by simp; omega
        clear his hc hbb hv ih hdn hot how hoH
        go_enter Tryz.func84, Tryz.ntmps84
        go_wp2_with fail
        rw [← hW0H.out]
        have x0 := fun X : Bel W0 => X.cell (hX0H.out.at' (i := 0) rfl)
        have x1 := fun X : Bel W0 => X.cell (hX0H.out.at' (i := 1) rfl)
        refine wp_region_calm (by kernel_rfl) (by kernel_rfl) ?_
        repeat (go_big_quiet_step ((first | (go_at_call 53; exact calls_calm (hq1 _)) | (go_at_call 52; exact calls_calm (hq2 _)) | (go_at_call 52; exact calls_calm (hq3 _)))))
        refine wpQuiet_nil ?_
        rintro _ ⟨X, rfl⟩
        have hbX := Lib.hid X.h
        generalize X.W = W1 at *
        clear x0 x1
        have hX1H := Lib.hid (hX0H.out.below hbX.out)
        have hS1H := Lib.hid (hS0H.out.below hbX.out)
        have hT1H := Lib.hid (hT0H.out.trans (Turn.below (F := F) hbX.out))
        clear hX0H hS0H hT0H hr0H hbX
        clear hq1 hq2 hq3
        have c0 := hX1H.out.at' (i := 0) rfl
        have c1 := hX1H.out.at' (i := 1) rfl
        have hP := Lib.hid (rbPutT_at hS1H.out tn m t low hm ht hlow true)
        go_wp2_with fail
        refine hP.out.mono ?_
        rintro e W2 ⟨rfl, hS, hT⟩
        have hX2H := Lib.hid (hX1H.out.turn hT hFb0)
        have hT2H := Lib.hid (hT1H.out.trans hT)
        have hS2H := Lib.hid hS
        clear hS hT hP c0 c1 hX1H hT1H hS1H
        go_wp2
        go_ret
        rw [hvH.out]
        exact ⟨rfl, hm, hS2H.out, hT2H.out⟩
      · have hc : ¬ (rbRed R t = false ∧ b1 = b2) := fun h => hbb h.2
        rw [if_neg hc, his] at hv
        have de : ((b1 : Int) == (b2 : Int)) = false := by simp; omega
        have hisH := Lib.hid his
        clear his hc hbb
        go_enter Tryz.func84, Tryz.ntmps84
        go_wp2_with fail
        rw [← hW0H.out]
        have x0 := fun X : Bel W0 => X.cell (hX0H.out.at' (i := 0) rfl)
        have x1 := fun X : Bel W0 => X.cell (hX0H.out.at' (i := 1) rfl)
        refine wp_region_calm (by kernel_rfl) (by kernel_rfl) ?_
        repeat (go_big_quiet_step ((first | (go_at_call 53; exact calls_calm (hq1 _)) | (go_at_call 52; exact calls_calm (hq2 _)) | (go_at_call 52; exact calls_calm (hq3 _)))))
        refine wpQuiet_nil ?_
        rintro _ ⟨X, rfl⟩
        have hbX := Lib.hid X.h
        generalize X.W = W1 at *
        clear x0 x1
        have hX1H := Lib.hid (hX0H.out.below hbX.out)
        have hS1H := Lib.hid (hS0H.out.below hbX.out)
        have hT1H := Lib.hid (hT0H.out.trans (Turn.below (F := F) hbX.out))
        clear hX0H hS0H hT0H hr0H hbX
        clear hq1 hq2 hq3
        obtain ⟨nr1, hr1, _⟩ := hS1H.out.rd
        have hr1H := Lib.hid hr1
        clear hr1
        have c0 := hX1H.out.at' (i := 0) rfl
        have c1 := hX1H.out.at' (i := 1) rfl
        have hQ := Lib.hid (by have := rbSides_at hr1H.out tn t ht; rw [hoH.out] at this; exact this)
        go_wp2_with fail
        refine hQ.out.mono ?_
        rintro e W2 ⟨rfl, hb⟩
        have hX2H := Lib.hid (hX1H.out.below hb)
        have hS2H := Lib.hid (hS1H.out.below hb)
        have hT2H := Lib.hid (hT1H.out.trans (Turn.below (F := F) hb))
        clear hb hQ c0 c1 hX1H hS1H hT1H
        clear hr1H
        obtain ⟨nr2, hr2, _⟩ := hS2H.out.rd
        have hr2H := Lib.hid hr2
        clear hr2
        have c0 := hX2H.out.at' (i := 0) rfl
        have c1 := hX2H.out.at' (i := 1) rfl
        have hQ := Lib.hid (by have := rbRed_at hr2H.out t ht; rw [hisH.out] at this; exact this)
        go_wp2_with fail
        refine hQ.out.mono ?_
        rintro e W3 ⟨rfl, hb⟩
        have hX3H := Lib.hid (hX2H.out.below hb)
        have hS3H := Lib.hid (hS2H.out.below hb)
        have hT3H := Lib.hid (hT2H.out.trans (Turn.below (F := F) hb))
        clear hb hQ c0 c1 hX2H hS2H hT2H
        clear hr2H
        have c0 := hX3H.out.at' (i := 0) rfl
        have c1 := hX3H.out.at' (i := 1) rfl
        have hih := ih W3 R ow (by omega) how hS3H.out
        rw [hdn.out] at hih
        generalize rbJoin tn m low f R ow = p at *
        obtain ⟨Ra, y⟩ := p
        simp only at hih hv
        have hihH := Lib.hid hih
        have hvH := Lib.hid hv
        clear hih hv
        go_wp2_with fail
        refine hihH.out.mono ?_
        rintro e W4 ⟨rfl, hy, hS, hT⟩
        have hX4H := Lib.hid (hX3H.out.turn hT hFb0)
        have hT4H := Lib.hid (hT3H.out.trans hT)
        have hS4H := Lib.hid hS
        clear hS hT hihH c0 c1 hX3H hT3H hS3H
        have c0 := hX4H.out.at' (i := 0) rfl
        have c1 := hX4H.out.at' (i := 1) rfl
        have hP := Lib.hid (rbPutT_at hS4H.out tn t ot y ht hot hy false)
        go_wp2_with fail
        refine hP.out.mono ?_
        rintro e W5 ⟨rfl, hS, hT⟩
        have hX5H := Lib.hid (hX4H.out.turn hT hFb0)
        have hT5H := Lib.hid (hT4H.out.trans hT)
        obtain ⟨Rb, hRb⟩ : ∃ Q, Q = rbPutT Ra tn t ot y false := ⟨_, rfl⟩
        rw [← hRb] at hS
        have hRbH := Lib.hid hRb
        clear hRb
        have hS5H := Lib.hid hS
        clear hS hT hP c0 c1 hX4H hT4H hS4H
        obtain ⟨nr5, hr5, _⟩ := hS5H.out.rd
        have hr5H := Lib.hid hr5
        clear hr5
        have hvH2 := Lib.hid (hvH.out.trans (show _ = rbStep2 tn Rb t ot y by rw [hRbH.out]; rfl))
        have hvH3 : rbJoin tn m low (f + 1) R t = _ := hvH2.out.trans (by unfold rbStep2; rfl)
        have hvH4 := Lib.hid hvH3
        clear hvH hvH2 hvH3 hRbH
        have hvH := hvH4
        clear hvH4
        obtain ⟨ab, hab⟩ : ∃ p, rbSides Rb tn y = p := ⟨_, rfl⟩
        have habl := rbSides_lt hr5H.out tn y
        rw [hab] at hvH habl
        obtain ⟨ya, yb⟩ := ab
        simp only at hvH habl
        obtain ⟨hya, hyb⟩ := habl
        obtain ⟨cd, hcd⟩ : ∃ p, rbSides Rb tn yb = p := ⟨_, rfl⟩
        have hcdl := rbSides_lt hr5H.out tn yb
        rw [hcd] at hvH hcdl
        obtain ⟨yc, yd⟩ := cd
        simp only at hvH hcdl
        obtain ⟨hyc, hyd⟩ := hcdl
        have habH := Lib.hid hab
        have hcdH := Lib.hid hcd
        clear hab hcd
        cases h1 : rbRed Rb y with
        | false =>
          have hvH2 : Hid (rbJoin tn m low (f + 1) R t = (Rb, t)) := Lib.hid (by rw [hvH.out, if_pos h1])
          clear hvH
          have hvH := hvH2
          clear hvH2
          have h1H := Lib.hid h1
          clear h1
          have c0 := hX5H.out.at' (i := 0) rfl
          have c1 := hX5H.out.at' (i := 1) rfl
          have hQ := Lib.hid (by have := rbRed_at hr5H.out y hy; rw [h1H.out] at this; exact this)
          go_wp2_with fail
          refine hQ.out.mono ?_
          rintro e W6 ⟨rfl, hb⟩
          have hX6H := Lib.hid (hX5H.out.below hb)
          have hS6H := Lib.hid (hS5H.out.below hb)
          have hT6H := Lib.hid (hT5H.out.trans (Turn.below (F := F) hb))
          clear hb hQ c0 c1 hX5H hS5H hT5H
          go_wp2
          go_ret
          rw [hvH.out]
          exact ⟨rfl, ht, hS6H.out, hT6H.out⟩
        | true =>
          have hvH2 := Lib.hid (hvH.out.trans (if_neg (by rw [h1]; simp)))
          clear hvH
          have hvH := hvH2
          clear hvH2
          have h1H := Lib.hid h1
          clear h1
          have c0 := hX5H.out.at' (i := 0) rfl
          have c1 := hX5H.out.at' (i := 1) rfl
          have hQ := Lib.hid (by have := rbRed_at hr5H.out y hy; rw [h1H.out] at this; exact this)
          go_wp2_with fail
          refine hQ.out.mono ?_
          rintro e W6 ⟨rfl, hb⟩
          have hX6H := Lib.hid (hX5H.out.below hb)
          have hS6H := Lib.hid (hS5H.out.below hb)
          have hT6H := Lib.hid (hT5H.out.trans (Turn.below (F := F) hb))
          clear hb hQ c0 c1 hX5H hS5H hT5H
          clear hr5H
          obtain ⟨nr6, hr6, _⟩ := hS6H.out.rd
          have hr6H := Lib.hid hr6
          clear hr6
          have c0 := hX6H.out.at' (i := 0) rfl
          have c1 := hX6H.out.at' (i := 1) rfl
          have hQ := Lib.hid (by have := rbSides_at hr6H.out tn y hy; rw [habH.out] at this; exact this)
          go_wp2_with fail
          refine hQ.out.mono ?_
          rintro e W7 ⟨rfl, hb⟩
          have hX7H := Lib.hid (hX6H.out.below hb)
          have hS7H := Lib.hid (hS6H.out.below hb)
          have hT7H := Lib.hid (hT6H.out.trans (Turn.below (F := F) hb))
          clear hb hQ c0 c1 hX6H hS6H hT6H
          clear hr6H
          obtain ⟨nr7, hr7, _⟩ := hS7H.out.rd
          have hr7H := Lib.hid hr7
          clear hr7
          cases h2 : rbRed Rb yb with
          | false =>
            have hvH2 : Hid (rbJoin tn m low (f + 1) R t = (Rb, t)) := Lib.hid (by rw [hvH.out, if_pos h2])
            clear hvH
            have hvH := hvH2
            clear hvH2
            have h2H := Lib.hid h2
            clear h2
            have c0 := hX7H.out.at' (i := 0) rfl
            have c1 := hX7H.out.at' (i := 1) rfl
            have hQ := Lib.hid (by have := rbRed_at hr7H.out yb hyb; rw [h2H.out] at this; exact this)
            go_wp2_with fail
            refine hQ.out.mono ?_
            rintro e W8 ⟨rfl, hb⟩
            have hX8H := Lib.hid (hX7H.out.below hb)
            have hS8H := Lib.hid (hS7H.out.below hb)
            have hT8H := Lib.hid (hT7H.out.trans (Turn.below (F := F) hb))
            clear hb hQ c0 c1 hX7H hS7H hT7H
            go_wp2
            go_ret
            rw [hvH.out]
            exact ⟨rfl, ht, hS8H.out, hT8H.out⟩
          | true =>
            have hvH2 := Lib.hid (hvH.out.trans (if_neg (by rw [h2]; simp)))
            clear hvH
            have hvH := hvH2
            clear hvH2
            have h2H := Lib.hid h2
            clear h2
            have c0 := hX7H.out.at' (i := 0) rfl
            have c1 := hX7H.out.at' (i := 1) rfl
            have hQ := Lib.hid (by have := rbRed_at hr7H.out yb hyb; rw [h2H.out] at this; exact this)
            go_wp2_with fail
            refine hQ.out.mono ?_
            rintro e W8 ⟨rfl, hb⟩
            have hX8H := Lib.hid (hX7H.out.below hb)
            have hS8H := Lib.hid (hS7H.out.below hb)
            have hT8H := Lib.hid (hT7H.out.trans (Turn.below (F := F) hb))
            clear hb hQ c0 c1 hX7H hS7H hT7H
            clear hr7H
            obtain ⟨nr8, hr8, _⟩ := hS8H.out.rd
            have hr8H := Lib.hid hr8
            clear hr8
            have c0 := hX8H.out.at' (i := 0) rfl
            have c1 := hX8H.out.at' (i := 1) rfl
            have hQ := Lib.hid (by have := rbSides_at hr8H.out tn yb hyb; rw [hcdH.out] at this; exact this)
            go_wp2_with fail
            refine hQ.out.mono ?_
            rintro e W9 ⟨rfl, hb⟩
            have hX9H := Lib.hid (hX8H.out.below hb)
            have hS9H := Lib.hid (hS8H.out.below hb)
            have hT9H := Lib.hid (hT8H.out.trans (Turn.below (F := F) hb))
            clear hb hQ c0 c1 hX8H hS8H hT8H
            clear hr8H
            have c0 := hX9H.out.at' (i := 0) rfl
            have c1 := hX9H.out.at' (i := 1) rfl
            have hP := Lib.hid (rbPutT_at hS9H.out tn yb yc yd hyb hyc hyd false)
            go_wp2_with fail
            refine hP.out.mono ?_
            rintro e W10 ⟨rfl, hS, hT⟩
            have hX10H := Lib.hid (hX9H.out.turn hT hFb0)
            have hT10H := Lib.hid (hT9H.out.trans hT)
            obtain ⟨Rc, hRc⟩ : ∃ Q, Q = rbPutT Rb tn yb yc yd false := ⟨_, rfl⟩
            rw [← hRc] at hS
            have hRcH := Lib.hid hRc
            clear hRc
            have hS10H := Lib.hid hS
            clear hS hT hP c0 c1 hX9H hT9H hS9H
            have c0 := hX10H.out.at' (i := 0) rfl
            have c1 := hX10H.out.at' (i := 1) rfl
            have hP := Lib.hid (rbPutT_at hS10H.out tn t ot ya ht hot hya false)
            go_wp2_with fail
            refine hP.out.mono ?_
            rintro e W11 ⟨rfl, hS, hT⟩
            have hX11H := Lib.hid (hX10H.out.turn hT hFb0)
            have hT11H := Lib.hid (hT10H.out.trans hT)
            obtain ⟨Rd', hRd'⟩ : ∃ Q, Q = rbPutT Rc tn t ot ya false := ⟨_, rfl⟩
            rw [← hRd'] at hS
            have hRd'H := Lib.hid hRd'
            clear hRd'
            have hS11H := Lib.hid hS
            clear hS hT hP c0 c1 hX10H hT10H hS10H
            have c0 := hX11H.out.at' (i := 0) rfl
            have c1 := hX11H.out.at' (i := 1) rfl
            have hP := Lib.hid (rbPutT_at hS11H.out tn y t yb hy ht hyb true)
            go_wp2_with fail
            refine hP.out.mono ?_
            rintro e W12 ⟨rfl, hS, hT⟩
            have hX12H := Lib.hid (hX11H.out.turn hT hFb0)
            have hT12H := Lib.hid (hT11H.out.trans hT)
            have hS12H := Lib.hid hS
            clear hS hT hP c0 c1 hX11H hT11H hS11H
            go_wp2
            go_ret
            rw [hvH.out, ← hRcH.out, ← hRd'H.out]
            exact ⟨rfl, hy, hS12H.out, hT12H.out⟩
end
end Go.Proofs.YtjpmlneihbckpaaGreatDoor
/- Red-black trees as they stand in records: plain law. -/
set_option linter.unusedVariables false
set_option linter.unusedSimpArgs false
namespace Go.Proofs.YtjpmlneihbckpaaGreatDoor
open Go.RowKit Go.Shelf
namespace BT
def bh (t : BT) : Nat := t.mk / 2
def red (t : BT) : Bool := t.mk % 2 == 1
/-- a node, the side that is joined at last -/
def nodeT (tn : Bool) (x kx vx m : Nat) (k v : ByteArray) (other own : BT) : BT := if tn then node x kx vx m k v own other else node x kx vx m k v other own
def RB : BT → Prop
  | nil => True
  | node _ _ _ m _ _ l r => (m = 2 * l.bh + 2 ∨ (m = 2 * l.bh + 1 ∧ l.red = false ∧ r.red = false)) ∧ l.bh = r.bh ∧ l.RB ∧ r.RB
theorem bh_le : ∀ {t : BT}, t.RB → 2 ^ t.bh ≤ t.size + 1
  | nil, _ => Nat.le_refl _
  | node x kx vx m k v l r, ⟨h1, h2, h3, h4⟩ => by
    have e1 := bh_le h3
    have e2 := bh_le h4
    have : (node x kx vx m k v l r).bh = l.bh + 1 ∨ (node x kx vx m k v l r).bh = l.bh := by
      show m / 2 = _ ∨ m / 2 = _
      rcases h1 with h | ⟨h, _⟩ <;> omega
    rw [h2] at e1
    simp only [size]
    rcases this with h | h
    · rw [h, h2, Nat.pow_succ]; omega
    · rw [h, h2]; omega
theorem bh_hgt : ∀ {t : BT}, t.RB → t.bh ≤ t.hgt
  | nil, _ => Nat.le_refl _
  | node x kx vx m k v l r, ⟨h1, h2, h3, h4⟩ => by
    have e1 := bh_hgt h3
    show m / 2 ≤ max l.hgt r.hgt + 1
    rcases h1 with h | ⟨h, _⟩ <;> omega
theorem hgt_bh : ∀ {t : BT}, t.RB → t.hgt ≤ 2 * t.bh + (if t.red then 1 else 0)
  | nil, _ => Nat.le_refl _
  | node x kx vx m k v l r, ⟨h1, h2, h3, h4⟩ => by
    have e1 := hgt_bh h3
    have e2 := hgt_bh h4
    simp only [hgt]
    show _ ≤ 2 * (m / 2) + (if m % 2 == 1 then 1 else 0)
    rcases h1 with rfl | ⟨rfl, hl, hr⟩
    · rw [if_neg (by simp)]
      have : (if l.red then 1 else 0) ≤ 1 := by split <;> omega
      have : (if r.red then 1 else 0) ≤ 1 := by split <;> omega
      omega
    · rw [if_pos (by simp)]
      rw [hl] at e1
      rw [hr] at e2
      simp only [Bool.false_eq_true, if_false] at e1 e2
      omega
section
variable {R : Nat → Option (List Nat)} {tn : Bool} {x kx vx m : Nat} {k v : ByteArray} {a b : BT}
theorem nodeT_root : (nodeT tn x kx vx m k v a b).root = x := by unfold nodeT; split <;> rfl
theorem nodeT_mk : (nodeT tn x kx vx m k v a b).mk = m := by unfold nodeT; split <;> rfl
theorem nodeT_size : (nodeT tn x kx vx m k v a b).size = a.size + 1 + b.size := by
  unfold nodeT
  split
  · simp only [size]; omega
  · simp only [size]
theorem nodeT_hgt : (nodeT tn x kx vx m k v a b).hgt = max a.hgt b.hgt + 1 := by
  unfold nodeT
  split
  · simp only [hgt]; rw [Nat.max_comm]
  · simp only [hgt]
theorem nodeT_mem {z : Nat} : z ∈ (nodeT tn x kx vx m k v a b).hs ↔ z ∈ a.hs ∨ z = x ∨ z = kx ∨ z = vx ∨ z ∈ b.hs := by
  unfold nodeT
  split
  · simp only [hs, List.mem_append, List.mem_cons]
    constructor
    · rintro (h | h | h | h | h) <;> simp [h]
    · rintro (h | h | h | h | h) <;> simp [h]
  · simp only [hs, List.mem_append, List.mem_cons]
theorem nodeT_nodes {z : Nat} : z ∈ (nodeT tn x kx vx m k v a b).nodes ↔ z ∈ a.nodes ∨ z = x ∨ z ∈ b.nodes := by
  unfold nodeT
  split
  · simp only [nodes, List.mem_append, List.mem_cons]
    constructor
    · rintro (h | h | h) <;> simp [h]
    · rintro (h | h | h) <;> simp [h]
  · simp only [nodes, List.mem_append, List.mem_cons]
theorem nodeT_nodup : (nodeT tn x kx vx m k v a b).hs.Nodup ↔ a.hs.Nodup ∧ b.hs.Nodup ∧ (x ∉ a.hs ∧ kx ∉ a.hs ∧ vx ∉ a.hs) ∧ (x ∉ b.hs ∧ kx ∉ b.hs ∧ vx ∉ b.hs) ∧ (x ≠ kx ∧ x ≠ vx ∧ kx ≠ vx) ∧ ∀ z ∈ a.hs, z ∉ b.hs := by
  unfold nodeT
  split
  · rw [node_nodup]
    constructor
    · rintro ⟨h1, h2, h3, h4, h5, h6⟩; exact ⟨h2, h1, h4, h3, h5, fun z hz hz' => h6 z hz' hz⟩
    · rintro ⟨h1, h2, h3, h4, h5, h6⟩; exact ⟨h2, h1, h4, h3, h5, fun z hz hz' => h6 z hz' hz⟩
  · exact node_nodup
/-- a node's own record -/
def ndT (tn : Bool) (kx vx m : Nat) (a b : BT) : Nd := if tn then ⟨kx, vx, b.root, a.root, m, b.size + 1 + a.size⟩ else ⟨kx, vx, a.root, b.root, m, a.size + 1 + b.size⟩
theorem nodeT_at : (nodeT tn x kx vx m k v a b).At R ↔ x ≠ 0 ∧ R x = some (ndT tn kx vx m a b).ws ∧ R kx = some (Tx.wordsL k.data.toList) ∧ R vx = some (Tx.wordsL v.data.toList) ∧ k.size ≤ 1000 ∧ v.size ≤ 1000 ∧ a.At R ∧ b.At R := by
  unfold nodeT ndT
  split
  · simp only [At]
    constructor
    · rintro ⟨h1, h2, h3, h4, h5, h6, h7, h8⟩; exact ⟨h1, h2, h3, h4, h5, h6, h8, h7⟩
    · rintro ⟨h1, h2, h3, h4, h5, h6, h7, h8⟩; exact ⟨h1, h2, h3, h4, h5, h6, h8, h7⟩
  · rfl
theorem nodeT_g (h : (nodeT tn x kx vx m k v a b).At R) : nodeE R x = 0 ∧ (nodeG R x).key = kx ∧ (nodeG R x).val = vx ∧ (nodeG R x).mark = m ∧ rbSides R tn x = (a.root, b.root) := by
  obtain ⟨e1, e2⟩ := nodeR_at (nodeT_at.1 h).2.1
  unfold rbSides
  rw [e2]
  unfold ndT
  cases tn <;> exact ⟨e1, rfl, rfl, rfl, rfl⟩
theorem nodeT_RB : (nodeT tn x kx vx m k v a b).RB ↔ (m = 2 * a.bh + 2 ∨ (m = 2 * a.bh + 1 ∧ a.red = false ∧ b.red = false)) ∧ a.bh = b.bh ∧ a.RB ∧ b.RB := by
  unfold nodeT
  split
  · simp only [RB]
    constructor
    · rintro ⟨h1, h2, h3, h4⟩
      refine ⟨?_, h2.symm, h4, h3⟩
      rw [← h2]
      rcases h1 with h | ⟨h, p, q⟩
      · exact .inl h
      · exact .inr ⟨h, q, p⟩
    · rintro ⟨h1, h2, h3, h4⟩
      refine ⟨?_, h2.symm, h4, h3⟩
      rw [← h2]
      rcases h1 with h | ⟨h, p, q⟩
      · exact .inl h
      · exact .inr ⟨h, q, p⟩
  · rfl
theorem nodeT_bh : (nodeT tn x kx vx m k v a b).bh = m / 2 := by unfold bh; rw [nodeT_mk]
theorem nodeT_red : (nodeT tn x kx vx m k v a b).red = (m % 2 == 1) := by unfold red; rw [nodeT_mk]
theorem nodeT_cases (tn : Bool) {t : BT} (h : t ≠ nil) : ∃ x kx vx m k v a b, t = nodeT tn x kx vx m k v a b := by
  cases t with
  | nil => exact absurd rfl h
  | node x kx vx m k v l r =>
    cases tn
    · exact ⟨x, kx, vx, m, k, v, l, r, rfl⟩
    · exact ⟨x, kx, vx, m, k, v, r, l, rfl⟩
theorem rbB_at {t : BT} (ht : t.At R) (h0 : R 0 = none) : rbB R t.root = t.bh ∧ rbRed R t.root = t.red := by
  unfold rbB rbRed bh red
  cases t with
  | nil => rw [root, nodeG_zero h0]; exact ⟨rfl, rfl⟩
  | node x kx vx m k v l r => rw [root, (nodeR_at ht.2.1).2]; exact ⟨rfl, rfl⟩
theorem nodeT_simT {x' kx' vx' m' m1 m1' : Nat} {k' v' : ByteArray} {c : BT} : Sim (nodeT tn x kx vx m k v a (nodeT tn x' kx' vx' m' k' v' b c)) (nodeT tn x' kx' vx' m1' k' v' (nodeT tn x kx vx m1 k v a b) c) := by
  unfold nodeT
  cases tn
  · exact sim_left
  · exact sim_right
theorem nodeT_in {a' b' : BT} {m' : Nat} (h : Sim a a') (h' : Sim b b') : Sim (nodeT tn x kx vx m k v a b) (nodeT tn x kx vx m' k v a' b') := by
  unfold nodeT
  cases tn
  · exact sim_in h h'
  · exact sim_in h' h
theorem rbPut_other {x y l r : Nat} {red : Bool} (h : y ≠ x) : rbPutT R tn x l r red y = R y := by
  unfold rbPutT
  split <;> exact putN_other h
/-- a node whose sides may be any -/
structure Lo (R : Nat → Option (List Nat)) (x kx vx : Nat) (k v : ByteArray) : Prop where
  nz : x ≠ 0
  e : nodeE R x = 0
  key : (nodeG R x).key = kx
  val : (nodeG R x).val = vx
  kt : R kx = some (Tx.wordsL k.data.toList)
  vt : R vx = some (Tx.wordsL v.data.toList)
  ks : k.size ≤ 1000
  vs : v.size ≤ 1000
theorem Lo.of (h : (nodeT tn x kx vx m k v a b).At R) : Lo R x kx vx k v := by
  obtain ⟨g1, g2, g3, g4, g5⟩ := nodeT_g h
  obtain ⟨h1, h2, h3, h4, h5, h6, h7, h8⟩ := nodeT_at.1 h
  exact ⟨h1, g1, g2, g3, h3, h4, h5, h6⟩
theorem Lo.congr {R' : Nat → Option (List Nat)} (h : Lo R x kx vx k v) (hx : R' x = R x) (hk : R' kx = R kx) (hv : R' vx = R vx) : Lo R' x kx vx k v := by
  obtain ⟨e1, e2⟩ := nodeE_congr hx
  exact ⟨h.nz, e1.trans h.e, by rw [e2]; exact h.key, by rw [e2]; exact h.val, hk.trans h.kt, hv.trans h.vt, h.ks, h.vs⟩
theorem put_bt {rd : Bool} (h0 : R 0 = none) (hx : Lo R x kx vx k v) (ha : a.At R) (hb : b.At R) (hab : a.bh = b.bh) (hba : a.bh < 1000000) (hsz : a.size + b.size < 999999)
    (xa : x ∉ a.hs) (xb : x ∉ b.hs) (xk : x ≠ kx) (xv : x ≠ vx) :
    (nodeT tn x kx vx (if rd then 2 * a.bh + 1 else 2 * a.bh + 2) k v a b).At (rbPutT R tn x a.root b.root rd) := by
  obtain ⟨x0, hx, rfl, rfl, hk, hv, ks, vs⟩ := hx
  have l1 := hgt_le a
  have e : ∀ (p q : BT), p.At R → q.At R → p.bh = a.bh → p.size + q.size < 999999 → rbN R x p.root q.root rd = ⟨(nodeG R x).key, (nodeG R x).val, p.root, q.root, if rd then 2 * a.bh + 1 else 2 * a.bh + 2, p.size + 1 + q.size⟩ := by
    intro p q hp hq hpa hs
    unfold rbN
    rw [(rbB_at hp h0).1, hpa, tsize_at hp h0 (by omega), tsize_at hq h0 (by omega)]
    rw [show ((p.size : Nat) : Int) + (q.size : Nat) = ((p.size + q.size : Nat) : Int) by omega, show wrap64 ((p.size + q.size : Nat) : Int) = ((p.size + q.size : Nat) : Int) from IntWalk.wrap64_in _ (by omega)]
    rw [show ((p.size + q.size : Nat) : Int) + 1 = ((p.size + 1 + q.size : Nat) : Int) by omega, toU_nat _ (by omega)]
    unfold rbMark
    cases rd
    · rw [if_neg (by simp), if_neg (by simp), Nat.mod_eq_of_lt (by omega)]
    · rfl
  refine nodeT_at.2 ⟨x0, ?_, ?_, ?_, ks, vs, ha.congr fun z hz => rbPut_other (fun e => xa (e ▸ hz)), hb.congr fun z hz => rbPut_other (fun e => xb (e ▸ hz))⟩
  · unfold rbPutT rbPut ndT
    cases tn
    · rw [if_neg (by simp), if_neg (by simp), putN_same hx, e a b ha hb rfl hsz]
    · rw [if_pos rfl, if_pos rfl, putN_same hx, e b a hb ha hab.symm (by omega)]
  · rw [rbPut_other (fun e => xk e.symm), hk]
  · rw [rbPut_other (fun e => xv e.symm), hv]
/-- what a join down a black tree's side gives -/
def W1 (tn : Bool) (T : BT) : Prop := ∃ x kx vx m k v a b, T = nodeT tn x kx vx m k v a b ∧ a.bh = b.bh ∧ a.RB ∧ b.RB ∧ (m = 2 * a.bh + 2 ∨ (m = 2 * a.bh + 1 ∧ a.red = false))
/-- and down a red one's -/
def W2 (tn : Bool) (Q : BT → Prop) (T : BT) : Prop := ∃ x kx vx m k v a b, T = nodeT tn x kx vx m k v a b ∧ a.bh = b.bh ∧ a.RB ∧ m = 2 * a.bh + 1 ∧ a.red = false ∧ Q b
theorem W1.rb {T : BT} (h : W1 tn T) (hr : T.red = false) : T.RB := by
  obtain ⟨x, kx, vx, m, k, v, a, b, rfl, h1, h2, h3, h4⟩ := h
  rw [nodeT_red] at hr
  refine nodeT_RB.2 ⟨.inl ?_, h1, h2, h3⟩
  rcases h4 with h | ⟨h, _⟩
  · exact h
  · rw [h] at hr; simp at hr
theorem RB.w1 {T : BT} (h : T.RB) (hn : T ≠ nil) : W1 tn T := by
  obtain ⟨x, kx, vx, m, k, v, a, b, rfl⟩ := nodeT_cases tn hn
  obtain ⟨h1, h2, h3, h4⟩ := nodeT_RB.1 h
  refine ⟨_, _, _, _, _, _, _, _, rfl, h2, h3, h4, ?_⟩
  rcases h1 with h | ⟨h, p, _⟩
  · exact .inl h
  · exact .inr ⟨h, p⟩
theorem W2.red {T : BT} {Q : BT → Prop} (h : W2 tn Q T) : T.red = true := by
  obtain ⟨x, kx, vx, m, k, v, a, b, rfl, h1, h2, h3, h4⟩ := h
  rw [nodeT_red, h3]
  simp
theorem W1.ne {T : BT} (h : W1 tn T) : T ≠ nil := by
  obtain ⟨x, kx, vx, m, k, v, a, b, rfl, _⟩ := h
  unfold nodeT
  split <;> simp
/-- a red result that is not yet mended -/
theorem red_parts {T : BT} (hr : T.red = true) (h : W1 tn T ∨ W2 tn (W1 tn) T) :
    ∃ x kx vx m k v a b, T = nodeT tn x kx vx m k v a b ∧ a.bh = b.bh ∧ a.RB ∧ m = 2 * a.bh + 1 ∧ a.red = false ∧ (b.RB ∨ W1 tn b) := by
  rcases h with ⟨x, kx, vx, m, k, v, a, b, rfl, h1, h2, h3, h4⟩ | ⟨x, kx, vx, m, k, v, a, b, rfl, h1, h2, h3, h4, h5⟩
  · refine ⟨_, _, _, _, _, _, _, _, rfl, h1, h2, ?_⟩
    rcases h4 with h | ⟨h, p⟩
    · rw [nodeT_red, h] at hr; simp at hr
    · exact ⟨h, p, .inl h3⟩
  · exact ⟨_, _, _, _, _, _, _, _, rfl, h1, h2, h3, h4, .inr h5⟩
theorem red_parts2 {T : BT} (hr : T.red = true) (h : T.RB ∨ W1 tn T) : ∃ x kx vx m k v a b, T = nodeT tn x kx vx m k v a b ∧ a.bh = b.bh ∧ a.RB ∧ b.RB ∧ m = 2 * a.bh + 1 := by
  have hn : T ≠ nil := fun e => by rw [e] at hr; cases hr
  have hw : W1 tn T := by
    rcases h with h | h
    · exact h.w1 hn
    · exact h
  obtain ⟨x, kx, vx, m, k, v, a, b, rfl, h1, h2, h3, h4⟩ := hw
  refine ⟨_, _, _, _, _, _, _, _, rfl, h1, h2, h3, ?_⟩
  rcases h4 with h | ⟨h, _⟩
  · rw [nodeT_red, h] at hr; simp at hr
  · exact h
end
end BT
end Go.Proofs.YtjpmlneihbckpaaGreatDoor

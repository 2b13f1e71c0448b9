/-
  The seat's own texts, shared part b: AvT2, Joined, AvJ, AvW4, AvW5, AvW6, AvD, LeafP, Leaf12, BuiltP, Built12, AvH, Awk12, Same12, Least12.
-/
import Derived.Test.YtoifdmbffaaffaaGreatDoorNa
/- AVL trees: joining, plain law. -/
set_option linter.unusedVariables false
set_option linter.unusedSimpArgs false
namespace Go.Proofs.YtoifdmbffaaffaaGreatDoor
open Go.RowKit Go.Shelf
namespace BT
section
variable {R : Nat → Option (List Nat)}
theorem bal_bt {x kx vx : Nat} {k v : ByteArray} {A B : BT} (h0 : R 0 = none) (h : (node x kx vx (max A.hgt B.hgt + 1) k v A B).At R) (hn : (node x kx vx (max A.hgt B.hgt + 1) k v A B).hs.Nodup)
    (sz : (node x kx vx (max A.hgt B.hgt + 1) k v A B).size < 999999) (aA : A.Avl) (aB : B.Avl) (d1 : A.hgt ≤ B.hgt + 2) (d2 : B.hgt ≤ A.hgt + 2) :
    ∃ t' : BT, BalOut R (avBal R x).1 (avBal R x).2 (node x kx vx (max A.hgt B.hgt + 1) k v A B) t' ∧
      (A.hgt ≤ B.hgt + 1 → B.hgt ≤ A.hgt + 1 → t'.hgt = max A.hgt B.hgt + 1) ∧ max A.hgt B.hgt ≤ t'.hgt ∧ t'.hgt ≤ max A.hgt B.hgt + 1 := by
  obtain ⟨ex, gx⟩ := h.root_at
  have hA := h.2.2.2.2.2.2.1
  have hB := h.2.2.2.2.2.2.2
  have hdd : wrap64 (avH R A.root - avH R B.root) = (A.hgt : Int) - (B.hgt : Int) := by
    have l1 := hgt_le A
    have l2 := hgt_le B
    simp only [size] at sz
    rw [avH_at hA h0 aA.mk (by omega), avH_at hB h0 aB.mk (by omega), IntWalk.wrap64_in _ (by omega)]
  have hgl : (nodeG R x).left = A.root := by rw [gx]
  have hgr : (nodeG R x).right = B.root := by rw [gx]
  have hun : avBal R x = if 1 < (A.hgt : Int) - (B.hgt : Int) then
      if avH R (nodeG R A.root).left < avH R (nodeG R A.root).right then
        avRight (withR (avLeft R A.root).1 (nodeG R x) x (avLeft R A.root).2 B.root) x
      else avRight R x
    else if (A.hgt : Int) - (B.hgt : Int) < -1 then
      if avH R (nodeG R B.root).right < avH R (nodeG R B.root).left then
        avLeft (withR (avRight R B.root).1 (nodeG R x) x A.root (avRight R B.root).2) x
      else avLeft R x
    else (R, x) := by
    unfold avBal
    rw [hgl, hgr, hdd]
  rw [hun]
  clear hun hdd hgl hgr
  by_cases q1 : B.hgt + 2 ≤ A.hgt
  · rw [if_pos (show 1 < (A.hgt : Int) - (B.hgt : Int) by omega)]
    obtain ⟨y, ky, vy, my, k', v', C, D, rfl⟩ := hgt_pos (t := A) (by omega)
    obtain ⟨rfl, g1, g2, aC, aD⟩ := aA
    have hC := hA.2.2.2.2.2.2.1
    have hD := hA.2.2.2.2.2.2.2
    have hc1 : avH R C.root = (C.hgt : Nat) := avH_at hC h0 aC.mk (by simp only [size] at sz; omega)
    have hc2 : avH R D.root = (D.hgt : Nat) := avH_at hD h0 aD.mk (by simp only [size] at sz; omega)
    rw [show (node y ky vy (max C.hgt D.hgt + 1) k' v' C D).root = y from rfl, (hA.root_at).2]
    simp only [hc1, hc2]
    by_cases q2 : C.hgt < D.hgt
    · rw [if_pos (by omega)]
      obtain ⟨z, kz, vz, mz, k2, v2, E, G, rfl⟩ := hgt_pos (t := D) (by omega)
      obtain ⟨rfl, g3, g4, aE, aG⟩ := aD
      obtain ⟨p1, p2, p3, p4, p5, p6, p7, p8, p9, p10⟩ := ar1 q1 d1 q2 g2 g3 g4
      obtain ⟨r1, r2⟩ := bal_lr h0 h hn sz aC aE aG aB p1 p2 p3 p4 p5 p6
      rw [r1]
      have hh : (node z kz vz (max (max C.hgt E.hgt + 1) (max G.hgt B.hgt + 1) + 1) k2 v2 (node y ky vy (max C.hgt E.hgt + 1) k' v' C E) (node x kx vx (max G.hgt B.hgt + 1) k v G B)).hgt = C.hgt + 2 := p8
      have hm : max (node y ky vy (max C.hgt (node z kz vz (max E.hgt G.hgt + 1) k2 v2 E G).hgt + 1) k' v' C (node z kz vz (max E.hgt G.hgt + 1) k2 v2 E G)).hgt B.hgt = C.hgt + 2 := p7
      refine ⟨_, r2, fun f1 _ => absurd (Nat.le_trans q1 f1) (by omega), ?_, ?_⟩
      · rw [hh, hm]; exact Nat.le_refl _
      · rw [hh, hm]; exact Nat.le_succ _
    · rw [if_neg (by omega)]
      obtain ⟨p1, p2, p3, p4, p5, p6, p7⟩ := ar2 q1 d1 q2 g1
      have r2 := bal_ll h0 h hn sz aC aD aB p1 p2 p3 p4
      have hm : max (node y ky vy (max C.hgt D.hgt + 1) k' v' C D).hgt B.hgt = C.hgt + 1 := p5
      refine ⟨_, r2, fun f1 _ => absurd (Nat.le_trans q1 f1) (by omega), ?_, ?_⟩
      · rw [hm]; show _ ≤ max C.hgt (max D.hgt B.hgt + 1) + 1; rcases p6 with e | e <;> rw [e] <;> omega
      · rw [hm]; show max C.hgt (max D.hgt B.hgt + 1) + 1 ≤ _; rcases p6 with e | e <;> rw [e] <;> omega
  · rw [if_neg (show ¬ 1 < (A.hgt : Int) - (B.hgt : Int) by omega)]
    by_cases q2 : A.hgt + 2 ≤ B.hgt
    · rw [if_pos (show (A.hgt : Int) - (B.hgt : Int) < -1 by omega)]
      obtain ⟨y, ky, vy, my, k', v', C, D, rfl⟩ := hgt_pos (t := B) (by omega)
      obtain ⟨rfl, g1, g2, aC, aD⟩ := aB
      have hC := hB.2.2.2.2.2.2.1
      have hD := hB.2.2.2.2.2.2.2
      have hc1 : avH R C.root = (C.hgt : Nat) := avH_at hC h0 aC.mk (by simp only [size] at sz; omega)
      have hc2 : avH R D.root = (D.hgt : Nat) := avH_at hD h0 aD.mk (by simp only [size] at sz; omega)
      rw [show (node y ky vy (max C.hgt D.hgt + 1) k' v' C D).root = y from rfl, (hB.root_at).2]
      simp only [hc1, hc2]
      by_cases q3 : D.hgt < C.hgt
      · rw [if_pos (by omega)]
        obtain ⟨z, kz, vz, mz, k2, v2, E, G, rfl⟩ := hgt_pos (t := C) (by omega)
        obtain ⟨rfl, g3, g4, aE, aG⟩ := aC
        obtain ⟨p1, p2, p3, p4, p5, p6, p7, p8, p9⟩ := ar3 q2 d2 q3 g1 g3 g4
        obtain ⟨r1, r2⟩ := bal_rl h0 h hn sz aA aE aG aD p1 p2 p3 p4 p5 p6
        rw [r1]
        have hh : (node z kz vz (max (max A.hgt E.hgt + 1) (max G.hgt D.hgt + 1) + 1) k2 v2 (node x kx vx (max A.hgt E.hgt + 1) k v A E) (node y ky vy (max G.hgt D.hgt + 1) k' v' G D)).hgt = D.hgt + 2 := p8
        have hm : max A.hgt (node y ky vy (max (node z kz vz (max E.hgt G.hgt + 1) k2 v2 E G).hgt D.hgt + 1) k' v' (node z kz vz (max E.hgt G.hgt + 1) k2 v2 E G) D).hgt = D.hgt + 2 := p7
        refine ⟨_, r2, fun _ f1 => absurd (Nat.le_trans q2 f1) (by omega), ?_, ?_⟩
        · rw [hh, hm]; exact Nat.le_refl _
        · rw [hh, hm]; exact Nat.le_succ _
      · rw [if_neg (by omega)]
        obtain ⟨p1, p2, p3, p4, p5, p6, p7⟩ := ar4 q2 d2 q3 g2
        have r2 := bal_rr h0 h hn sz aA aC aD p1 p2 p3 p4
        have hm : max A.hgt (node y ky vy (max C.hgt D.hgt + 1) k' v' C D).hgt = D.hgt + 1 := p5
        refine ⟨_, r2, fun _ f1 => absurd (Nat.le_trans q2 f1) (by omega), ?_, ?_⟩
        · rw [hm]; show _ ≤ max (max A.hgt C.hgt + 1) D.hgt + 1; rcases p6 with e | e <;> rw [e] <;> omega
        · rw [hm]; show max (max A.hgt C.hgt + 1) D.hgt + 1 ≤ _; rcases p6 with e | e <;> rw [e] <;> omega
    · rw [if_neg (show ¬ (A.hgt : Int) - (B.hgt : Int) < -1 by omega)]
      exact ⟨_, ⟨rfl, h, Sim.refl _, ⟨rfl, by omega, by omega, aA, aB⟩, fun u _ => rfl⟩, fun _ _ => rfl, Nat.le_succ _, Nat.le_refl _⟩
theorem nodes_zero {R : Nat → Option (List Nat)} (h0 : R 0 = none) {t : BT} (h : t.At R) : (0 : Nat) ∉ t.nodes := fun h9 => by
  obtain ⟨q, hq⟩ := BT.nodes_six t h 0 h9
  rw [h0] at hq; cases hq
theorem join_l {R R1 : Nat → Option (List Nat)} {xm km vm x kx vx y1 : Nat} {k v k' v' : ByteArray} {A B r T : BT} (h0 : R 0 = none) (hX : (node x kx vx (max A.hgt B.hgt + 1) k' v' A B).At R) (hr : r.At R) (hm0 : xm ≠ 0) (aK : A.Avl) (hn : (node xm km vm 0 k v (node x kx vx (max A.hgt B.hgt + 1) k' v' A B) r).hs.Nodup) (sz : (node xm km vm 0 k v (node x kx vx (max A.hgt B.hgt + 1) k' v' A B) r).size < 999990)
    (hT : BalOut R R1 y1 (node xm km vm 0 k v B r) T) (d1 : A.hgt ≤ T.hgt + 2) (d2 : T.hgt ≤ A.hgt + 2) :
    ∃ t : BT, BalOut R (avBal (withR R1 (nodeG R x) x A.root T.root) x).1 (avBal (withR R1 (nodeG R x) x A.root T.root) x).2 (node xm km vm 0 k v (node x kx vx (max A.hgt B.hgt + 1) k' v' A B) r) t ∧ (A.hgt ≤ T.hgt + 1 → T.hgt ≤ A.hgt + 1 → t.hgt = max A.hgt T.hgt + 1) ∧ max A.hgt T.hgt ≤ t.hgt ∧ t.hgt ≤ max A.hgt T.hgt + 1 := by
  obtain ⟨ex, gx⟩ := hX.root_at
  have hx0 := hX.1
  have hA := hX.2.2.2.2.2.2.1
  have hB := hX.2.2.2.2.2.2.2
  obtain ⟨nX, nr, ⟨a1, a2, a3⟩, ⟨b1, b2, b3⟩, ⟨c1, c2, c3⟩, c4⟩ := node_nodup.1 hn
  obtain ⟨mA, mB, ⟨d1', d2', d3'⟩, ⟨e1, e2, e3⟩, ⟨f1, f2, f3⟩, f4⟩ := node_nodup.1 nX
  have hsT := hT.sim.size
  have hkept : ∀ z, z ∈ A.hs ∨ z = x ∨ z = kx ∨ z = vx → z ∉ T.hs := fun z hz => by
    have hzl : z ∈ (node x kx vx (max A.hgt B.hgt + 1) k' v' A B).hs := by
      simp only [hs, List.mem_append, List.mem_cons]
      rcases hz with h | h | h | h <;> simp [h]
    have hz2 : z ≠ xm ∧ z ≠ km ∧ z ≠ vm ∧ z ∉ r.hs := ⟨fun e => a1 (e ▸ hzl), fun e => a2 (e ▸ hzl), fun e => a3 (e ▸ hzl), c4 z hzl⟩
    rw [hT.sim.hs]
    intro h; rcases List.mem_append.1 h with h | h
    · rcases hz with h' | rfl | rfl | rfl
      · exact f4 z h' h
      · exact e1 h
      · exact e2 h
      · exact e3 h
    · simp only [List.mem_cons] at h
      rcases h with h | h | h | h
      · exact hz2.1 h
      · exact hz2.2.1 h
      · exact hz2.2.2.1 h
      · exact hz2.2.2.2 h
  have hof : ∀ z, z ∉ T.hs → R1 z = R z := fun z hz => hT.frame z (fun h => hz (by rw [hT.sim.hs]; exact nodes_hs _ _ h))
  have xT := hkept x (by simp)
  have hR1 : R1 0 = none := by
    refine (hT.frame 0 fun h9 => ?_).trans h0
    simp only [nodes, List.mem_append, List.mem_cons] at h9
    rcases h9 with h | h | h
    · exact nodes_zero h0 hB h
    · exact hm0 h.symm
    · exact nodes_zero h0 hr h
  have hK1 : A.At R1 := hA.congr fun z hz => hof z (hkept z (.inl hz))
  have hk : (nodeG R x).key = kx := by rw [gx]
  have hv : (nodeG R x).val = vx := by rw [gx]
  have z1 : (node xm km vm 0 k v (node x kx vx (max A.hgt B.hgt + 1) k' v' A B) r).size = T.size + 1 + A.size := by rw [hsT]; simp only [size]; omega
  have hw := with_bt (R := R1) (nd := nodeG R x) (x := x) (k := k') (v := v') hR1 ((nodeE_congr (hof x xT)).1.trans ex) hx0 hK1 hT.at' aK.mk hT.avl.mk (by omega)
    (by rw [hk]; exact (hof kx (hkept kx (by simp))).trans hX.2.2.1) (by rw [hv]; exact (hof vx (hkept vx (by simp))).trans hX.2.2.2.1) hX.2.2.2.2.1 hX.2.2.2.2.2.1 d1' xT (by rw [hk]; exact f1) (by rw [hv]; exact f2)
  rw [hk, hv] at hw
  have hoth : ∀ u, u ≠ x → withR R1 (nodeG R x) x A.root T.root u = R1 u := fun u hu => withR_other hu
  generalize withR R1 (nodeG R x) x A.root T.root = R2 at *
  have sm : Sim (node xm km vm 0 k v (node x kx vx (max A.hgt B.hgt + 1) k' v' A B) r) (node x kx vx (max A.hgt T.hgt + 1) k' v' A T) :=
    ⟨by simp only [hs, hT.sim.hs, List.append_assoc, List.cons_append], by simp only [nodes, hT.sim.nodes, List.append_assoc, List.cons_append], by simp only [prs, hT.sim.prs, List.append_assoc, List.cons_append]⟩
  obtain ⟨t, o, s6⟩ := bal_bt ((hoth 0 (fun e => hx0 e.symm)).trans hR1) hw (sm.nodup hn) (by rw [sm.size]; omega) aK hT.avl d1 d2
  refine ⟨t, ⟨o.root, o.at', sm.trans o.sim, o.avl, fun z hz => ?_⟩, s6⟩
  rw [o.frame z (sm.mem hz)]
  simp only [nodes, List.mem_append, List.mem_cons, not_or] at hz
  rw [hoth z hz.1.2.1]
  exact hT.frame z (by simp only [nodes, List.mem_append, List.mem_cons, not_or]; exact ⟨hz.1.2.2, hz.2.1, hz.2.2⟩)
theorem join_r {R R1 : Nat → Option (List Nat)} {xm km vm x kx vx y1 : Nat} {k v k' v' : ByteArray} {A B r T : BT} (h0 : R 0 = none) (hX : (node x kx vx (max A.hgt B.hgt + 1) k' v' A B).At R) (hr : r.At R) (hm0 : xm ≠ 0) (aK : B.Avl) (hn : (node xm km vm 0 k v r (node x kx vx (max A.hgt B.hgt + 1) k' v' A B)).hs.Nodup) (sz : (node xm km vm 0 k v r (node x kx vx (max A.hgt B.hgt + 1) k' v' A B)).size < 999990)
    (hT : BalOut R R1 y1 (node xm km vm 0 k v r A) T) (d1 : T.hgt ≤ B.hgt + 2) (d2 : B.hgt ≤ T.hgt + 2) :
    ∃ t : BT, BalOut R (avBal (withR R1 (nodeG R x) x T.root B.root) x).1 (avBal (withR R1 (nodeG R x) x T.root B.root) x).2 (node xm km vm 0 k v r (node x kx vx (max A.hgt B.hgt + 1) k' v' A B)) t ∧ (T.hgt ≤ B.hgt + 1 → B.hgt ≤ T.hgt + 1 → t.hgt = max T.hgt B.hgt + 1) ∧ max T.hgt B.hgt ≤ t.hgt ∧ t.hgt ≤ max T.hgt B.hgt + 1 := by
  obtain ⟨ex, gx⟩ := hX.root_at
  have hx0 := hX.1
  have hA := hX.2.2.2.2.2.2.1
  have hB := hX.2.2.2.2.2.2.2
  obtain ⟨nr, nX, ⟨b1, b2, b3⟩, ⟨a1, a2, a3⟩, ⟨c1, c2, c3⟩, c4⟩ := node_nodup.1 hn
  obtain ⟨mA, mB, ⟨d1', d2', d3'⟩, ⟨e1, e2, e3⟩, ⟨f1, f2, f3⟩, f4⟩ := node_nodup.1 nX
  have hsT := hT.sim.size
  have hkept : ∀ z, z ∈ B.hs ∨ z = x ∨ z = kx ∨ z = vx → z ∉ T.hs := fun z hz => by
    have hzl : z ∈ (node x kx vx (max A.hgt B.hgt + 1) k' v' A B).hs := by
      simp only [hs, List.mem_append, List.mem_cons]
      rcases hz with h | h | h | h <;> simp [h]
    have hz2 : z ≠ xm ∧ z ≠ km ∧ z ≠ vm ∧ z ∉ r.hs := ⟨fun e => a1 (e ▸ hzl), fun e => a2 (e ▸ hzl), fun e => a3 (e ▸ hzl), fun e => c4 z e hzl⟩
    rw [hT.sim.hs]
    intro h; rcases List.mem_append.1 h with h | h
    · exact hz2.2.2.2 h
    · simp only [List.mem_cons] at h
      rcases h with h | h | h | h
      · exact hz2.1 h
      · exact hz2.2.1 h
      · exact hz2.2.2.1 h
      · rcases hz with h' | rfl | rfl | rfl
        · exact f4 z h h'
        · exact d1' h
        · exact d2' h
        · exact d3' h
  have hof : ∀ z, z ∉ T.hs → R1 z = R z := fun z hz => hT.frame z (fun h => hz (by rw [hT.sim.hs]; exact nodes_hs _ _ h))
  have xT := hkept x (by simp)
  have hR1 : R1 0 = none := by
    refine (hT.frame 0 fun h9 => ?_).trans h0
    simp only [nodes, List.mem_append, List.mem_cons] at h9
    rcases h9 with h | h | h
    · exact nodes_zero h0 hr h
    · exact hm0 h.symm
    · exact nodes_zero h0 hA h
  have hK1 : B.At R1 := hB.congr fun z hz => hof z (hkept z (.inl hz))
  have hk : (nodeG R x).key = kx := by rw [gx]
  have hv : (nodeG R x).val = vx := by rw [gx]
  have z1 : (node xm km vm 0 k v r (node x kx vx (max A.hgt B.hgt + 1) k' v' A B)).size = T.size + 1 + B.size := by rw [hsT]; simp only [size]; omega
  have hw := with_bt (R := R1) (nd := nodeG R x) (x := x) (k := k') (v := v') hR1 ((nodeE_congr (hof x xT)).1.trans ex) hx0 hT.at' hK1 hT.avl.mk aK.mk (by omega)
    (by rw [hk]; exact (hof kx (hkept kx (by simp))).trans hX.2.2.1) (by rw [hv]; exact (hof vx (hkept vx (by simp))).trans hX.2.2.2.1) hX.2.2.2.2.1 hX.2.2.2.2.2.1 xT e1 (by rw [hk]; exact f1) (by rw [hv]; exact f2)
  rw [hk, hv] at hw
  have hoth : ∀ u, u ≠ x → withR R1 (nodeG R x) x T.root B.root u = R1 u := fun u hu => withR_other hu
  generalize withR R1 (nodeG R x) x T.root B.root = R2 at *
  have sm : Sim (node xm km vm 0 k v r (node x kx vx (max A.hgt B.hgt + 1) k' v' A B)) (node x kx vx (max T.hgt B.hgt + 1) k' v' T B) :=
    ⟨by simp only [hs, hT.sim.hs, List.append_assoc, List.cons_append], by simp only [nodes, hT.sim.nodes, List.append_assoc, List.cons_append], by simp only [prs, hT.sim.prs, List.append_assoc, List.cons_append]⟩
  obtain ⟨t, o, s6⟩ := bal_bt ((hoth 0 (fun e => hx0 e.symm)).trans hR1) hw (sm.nodup hn) (by rw [sm.size]; omega) hT.avl aK d1 d2
  refine ⟨t, ⟨o.root, o.at', sm.trans o.sim, o.avl, fun z hz => ?_⟩, s6⟩
  rw [o.frame z (sm.mem hz)]
  simp only [nodes, List.mem_append, List.mem_cons, not_or] at hz
  rw [hoth z hz.2.2.2.1]
  exact hT.frame z (by simp only [nodes, List.mem_append, List.mem_cons, not_or]; exact ⟨hz.1, hz.2.1, hz.2.2.1⟩)
theorem join_here {R : Nat → Option (List Nat)} {nd : Nd} {xm : Nat} {k v : ByteArray} {l r : BT} (h0 : R 0 = none) (hl : l.At R) (hr : r.At R) (al : l.Avl) (ar : r.Avl) (em : nodeE R xm = 0) (x0 : xm ≠ 0)
    (hk : R nd.key = some (Tx.wordsL k.data.toList)) (hv : R nd.val = some (Tx.wordsL v.data.toList)) (ks : k.size ≤ 1000) (vs : v.size ≤ 1000) (hn : (node xm nd.key nd.val 0 k v l r).hs.Nodup) (sz : l.size + r.size < 999990) (g1 : l.hgt ≤ r.hgt + 1) (g2 : r.hgt ≤ l.hgt + 1) :
    ∃ t : BT, BalOut R (withR R nd xm l.root r.root) xm (node xm nd.key nd.val 0 k v l r) t ∧ max l.hgt r.hgt ≤ t.hgt ∧ t.hgt ≤ max l.hgt r.hgt + 1 := by
  obtain ⟨nA, nB, ⟨a1, a2, a3⟩, ⟨b1, b2, b3⟩, ⟨c1, c2, c3⟩, c4⟩ := node_nodup.1 hn
  have hw := with_bt (nd := nd) h0 em x0 hl hr al.mk ar.mk (by omega) hk hv ks vs a1 b1 c1 c2
  refine ⟨_, ⟨rfl, hw, sim_in (Sim.refl l) (Sim.refl r), ⟨rfl, g1, g2, al, ar⟩, fun z hz => ?_⟩, Nat.le_succ _, Nat.le_refl _⟩
  simp only [nodes, List.mem_append, List.mem_cons, not_or] at hz
  exact withR_other hz.2.1
theorem join_bt {R : Nat → Option (List Nat)} {nd : Nd} {xm : Nat} {k v : ByteArray} : ∀ (f : Nat) (l r : BT), R 0 = none → l.At R → r.At R → l.Avl → r.Avl → nodeE R xm = 0 → xm ≠ 0 →
    R nd.key = some (Tx.wordsL k.data.toList) → R nd.val = some (Tx.wordsL v.data.toList) → k.size ≤ 1000 → v.size ≤ 1000 → (node xm nd.key nd.val 0 k v l r).hs.Nodup → l.size + r.size < 999980 → l.hgt + r.hgt ≤ f →
    ∃ t : BT, BalOut R (avJoin nd xm f R l.root r.root).1 (avJoin nd xm f R l.root r.root).2 (node xm nd.key nd.val 0 k v l r) t ∧ max l.hgt r.hgt ≤ t.hgt ∧ t.hgt ≤ max l.hgt r.hgt + 1 := by
  intro f
  induction f with
  | zero =>
    intro l r h0 hl hr al ar em x0 hk hv ks vs hn sz hf
    exact join_here h0 hl hr al ar em x0 hk hv ks vs hn (by omega) (by omega) (by omega)
  | succ f ih =>
    intro l r h0 hl hr al ar em x0 hk hv ks vs hn sz hf
    have e1 : avH R l.root = (l.hgt : Nat) := avH_at hl h0 al.mk (by omega)
    have e2 : avH R r.root = (r.hgt : Nat) := avH_at hr h0 ar.mk (by omega)
    have l1 := hgt_le l
    have l2 := hgt_le r
    have e3 : wrap64 ((r.hgt : Nat) + 1 : Int) = (r.hgt : Int) + 1 := IntWalk.wrap64_in _ (by omega)
    have e4 : wrap64 ((l.hgt : Nat) + 1 : Int) = (l.hgt : Int) + 1 := IntWalk.wrap64_in _ (by omega)
    rw [avJoin, e1, e2, e3, e4]
    clear e1 e2 e3 e4 l1 l2
    by_cases q1 : r.hgt + 1 < l.hgt
    · rw [if_pos (by omega)]
      obtain ⟨x, kx, vx, mx, k', v', A, B, rfl⟩ := hgt_pos (t := l) (by omega)
      obtain ⟨rfl, g1, g2, aA, aB⟩ := al
      obtain ⟨_, gx⟩ := hl.root_at
      have hgl : (nodeG R x).left = A.root := by rw [gx]
      have hgr : (nodeG R x).right = B.root := by rw [gx]
      rw [show (node x kx vx (max A.hgt B.hgt + 1) k' v' A B).root = x from rfl, hgl, hgr]
      obtain ⟨nX, nr, ⟨a1, a2, a3⟩, ⟨b1, b2, b3⟩, cc, c4⟩ := node_nodup.1 hn
      obtain ⟨mA, mB, _, _, _, f4⟩ := node_nodup.1 nX
      have hin : ∀ z ∈ B.hs, z ∈ (node x kx vx (max A.hgt B.hgt + 1) k' v' A B).hs := fun z hz => by simp [hs, hz]
      have nn : (node xm nd.key nd.val 0 k v B r).hs.Nodup := node_nodup.2 ⟨mB, nr, ⟨fun e => a1 (hin _ e), fun e => a2 (hin _ e), fun e => a3 (hin _ e)⟩, ⟨b1, b2, b3⟩, cc, fun z hz => c4 z (hin z hz)⟩
      have hle : B.hgt + r.hgt ≤ f := by
        have h9 : max A.hgt B.hgt + 1 + r.hgt ≤ f + 1 := hf
        have := Nat.le_max_right A.hgt B.hgt
        omega
      obtain ⟨T, o, t6, t7⟩ := ih B r h0 hl.2.2.2.2.2.2.2 hr aB ar em x0 hk hv ks vs nn (by simp only [size] at sz; omega) hle
      obtain ⟨j1, j2, j3⟩ := jr1 q1 g1 g2 t6 t7
      rw [o.root]
      obtain ⟨t, p, s6, s7, s8⟩ := join_l h0 hl hr x0 aA hn (by simp only [size] at sz ⊢; omega) o j1 j2
      exact ⟨t, p, j3 _ s6 s7 s8⟩
    · rw [if_neg (by omega)]
      by_cases q2 : l.hgt + 1 < r.hgt
      · rw [if_pos (by omega)]
        obtain ⟨x, kx, vx, mx, k', v', A, B, rfl⟩ := hgt_pos (t := r) (by omega)
        obtain ⟨rfl, g1, g2, aA, aB⟩ := ar
        obtain ⟨_, gx⟩ := hr.root_at
        have hgl : (nodeG R x).left = A.root := by rw [gx]
        have hgr : (nodeG R x).right = B.root := by rw [gx]
        rw [show (node x kx vx (max A.hgt B.hgt + 1) k' v' A B).root = x from rfl, hgl, hgr]
        obtain ⟨nr, nX, ⟨b1, b2, b3⟩, ⟨a1, a2, a3⟩, cc, c4⟩ := node_nodup.1 hn
        obtain ⟨mA, mB, _, _, _, f4⟩ := node_nodup.1 nX
        have hin : ∀ z ∈ A.hs, z ∈ (node x kx vx (max A.hgt B.hgt + 1) k' v' A B).hs := fun z hz => by simp [hs, hz]
        have nn : (node xm nd.key nd.val 0 k v l A).hs.Nodup := node_nodup.2 ⟨nr, mA, ⟨b1, b2, b3⟩, ⟨fun e => a1 (hin _ e), fun e => a2 (hin _ e), fun e => a3 (hin _ e)⟩, cc, fun z hz hz' => c4 z hz (hin z hz')⟩
        have hle : l.hgt + A.hgt ≤ f := by
          have h9 : l.hgt + (max A.hgt B.hgt + 1) ≤ f + 1 := hf
          have := Nat.le_max_left A.hgt B.hgt
          omega
        obtain ⟨T, o, t6, t7⟩ := ih l A h0 hl hr.2.2.2.2.2.2.1 al aA em x0 hk hv ks vs nn (by simp only [size] at sz; omega) hle
        obtain ⟨j1, j2, j3⟩ := jr2 q2 g1 g2 t6 t7
        rw [o.root]
        obtain ⟨t, p, s6, s7, s8⟩ := join_r h0 hr hl x0 aB hn (by simp only [size] at sz ⊢; omega) o j1 j2
        exact ⟨t, p, j3 _ s6 s7 s8⟩
      · rw [if_neg (by omega)]
        exact join_here h0 hl hr al ar em x0 hk hv ks vs hn (by omega) (by omega) (by omega)
end
end BT
end Go.Proofs.YtoifdmbffaaffaaGreatDoor
/- Two trees and a leaf, made one behind the other, then joined: plain law. -/
set_option linter.unusedVariables false
set_option linter.unusedSimpArgs false
namespace Go.Proofs.YtoifdmbffaaffaaGreatDoor
open Go.RowKit Go.Shelf
section
variable {R0 R1 R2 R3 R4 : Nat → Option (List Nat)} {tl tr t : BT} {x kx vx m m0 : Nat} {k v : ByteArray}
theorem leaf_hs : (BT.node x kx vx m k v .nil .nil).hs = [x, kx, vx] := rfl
theorem GrowOut.on {ta tb : BT} (g : GrowOut R1 R2 tb) (h : ta.At R1) : ta.At R2 := h.congr fun z hz => g.keep (BT.hs_in ta h z hz)
theorem GrowOut.off {ta tb : BT} (g : GrowOut R1 R2 tb) (h : ta.At R1) : ∀ z ∈ ta.hs, z ∉ tb.hs := fun z hz hz' => BT.hs_in ta h z hz (g.fresh z hz')
theorem grow_three (gl : GrowOut R0 R1 tl) (gr : GrowOut R1 R2 tr) (gm : GrowOut R2 R3 (.node x kx vx m k v .nil .nil)) :
    tl.At R3 ∧ tr.At R3 ∧ (BT.node x kx vx m0 k v tl tr).hs.Nodup ∧ (∀ z ∈ (BT.node x kx vx m0 k v tl tr).hs, R0 z = none ∧ z ≠ 0) ∧ ∀ z, z ∉ (BT.node x kx vx m0 k v tl tr).hs → R3 z = R0 z := by
  have hl2 := gr.on gl.at'
  have hl3 := gm.on hl2
  have hr3 := gm.on gr.at'
  have o1 := gr.off gl.at'
  have o2 := gm.off hl2
  have o3 := gm.off gr.at'
  have nm := gm.nodup
  rw [leaf_hs] at nm o2 o3
  simp only [List.nodup_cons, List.mem_cons, List.not_mem_nil, or_false, not_or, not_false_eq_true, List.nodup_nil, and_true] at nm
  have f2 : ∀ z, z ∈ [x, kx, vx] → R0 z = none ∧ z ∉ tl.hs ∧ z ∉ tr.hs := fun z hz => by
    have h1 := gm.fresh z (by rw [leaf_hs]; exact hz)
    have a1 : z ∉ tl.hs := fun h => o2 z h hz
    have a2 : z ∉ tr.hs := fun h => o3 z h hz
    rw [gr.old z a2, gl.old z a1] at h1
    exact ⟨h1, a1, a2⟩
  have f1 : ∀ z, z ∈ tr.hs → R0 z = none := fun z hz => by
    have h1 := gr.fresh z hz
    rw [gl.old z (fun h => o1 z h hz)] at h1
    exact h1
  refine ⟨hl3, hr3, ?_, ?_, ?_⟩
  · refine BT.node_nodup.2 ⟨gl.nodup, gr.nodup, ⟨(f2 x (by simp)).2.1, (f2 kx (by simp)).2.1, (f2 vx (by simp)).2.1⟩, ⟨(f2 x (by simp)).2.2, (f2 kx (by simp)).2.2, (f2 vx (by simp)).2.2⟩, ⟨nm.1.1, nm.1.2, nm.2⟩, o1⟩
  · intro z hz
    simp only [BT.hs, List.mem_append, List.mem_cons] at hz
    rcases hz with hz | rfl | rfl | rfl | hz
    · exact ⟨gl.fresh z hz, gl.nz z hz⟩
    · exact ⟨(f2 z (by simp)).1, gm.nz z (by simp [BT.hs])⟩
    · exact ⟨(f2 z (by simp)).1, gm.nz z (by simp [BT.hs])⟩
    · exact ⟨(f2 z (by simp)).1, gm.nz z (by simp [BT.hs])⟩
    · exact ⟨f1 z hz, gr.nz z hz⟩
  · intro z hz
    simp only [BT.hs, List.mem_append, List.mem_cons, not_or] at hz
    rw [gm.old z (by rw [leaf_hs]; simp [hz.2.1, hz.2.2.1, hz.2.2.2.1]), gr.old z hz.2.2.2.2, gl.old z hz.1]
theorem GrowOut.joined (gl : GrowOut R0 R1 tl) (gr : GrowOut R1 R2 tr) (gm : GrowOut R2 R3 (.node x kx vx m k v .nil .nil)) (ht : t.At R4) (hs : BT.Sim (.node x kx vx m0 k v tl tr) t)
    (hf : ∀ z, z ∉ (BT.node x kx vx m0 k v tl tr).nodes → R4 z = R3 z) : GrowOut R0 R4 t := by
  obtain ⟨_, _, h3, h4, h5⟩ := grow_three (m0 := m0) gl gr gm
  refine ⟨ht, hs.nodup h3, fun z hz => ?_, fun z hz => ?_, fun z hz => ?_⟩
  · rw [hs.hs] at hz; exact (h4 z hz).1
  · rw [hs.hs] at hz
    rw [hf z (fun h => hz (BT.nodes_hs _ _ h)), h5 z hz]
  · rw [hs.hs] at hz; exact (h4 z hz).2
end
end Go.Proofs.YtoifdmbffaaffaaGreatDoor
/- avl.Join as it works on records, and of trees: plain law. -/
set_option linter.unusedVariables false
set_option linter.unusedSimpArgs false
namespace Go.Proofs.YtoifdmbffaaffaaGreatDoor
open Go.RowKit Go.Shelf
/-- a node, or nothing -/
def isR (R : Nat → Option (List Nat)) (x : Nat) : Bool := x == 0 || nodeE R x == 0
/-- an answer without an error -/
def okW (p : (Nat → Option (List Nat)) × Nat) : (Nat → Option (List Nat)) × Nat × Nat := (p.1, p.2, 0)
theorem okW_1 (p : (Nat → Option (List Nat)) × Nat) : (okW p).1 = p.1 := rfl
theorem okW_2 (p : (Nat → Option (List Nat)) × Nat) : (okW p).2.1 = p.2 := rfl
theorem okW_3 (p : (Nat → Option (List Nat)) × Nat) : (okW p).2.2 = 0 := rfl
/-- what Join leaves, answers, and with which error -/
def avTop (R : Nat → Option (List Nat)) (l m r : Nat) : (Nat → Option (List Nat)) × Nat × Nat :=
  if m ≠ 0 ∧ isR R l = true ∧ isR R m = true ∧ isR R r = true then okW (avJoin (nodeG R m) m 100 R l r) else (R, 0, 8)
theorem avTop_yes {R : Nat → Option (List Nat)} {l m r : Nat} (hc : m ≠ 0 ∧ isR R l = true ∧ isR R m = true ∧ isR R r = true) : avTop R l m r = okW (avJoin (nodeG R m) m 100 R l r) := by
  unfold avTop
  exact if_pos hc
theorem avTop_no {R : Nat → Option (List Nat)} {l m r : Nat} (hc : ¬ (m ≠ 0 ∧ isR R l = true ∧ isR R m = true ∧ isR R r = true)) : avTop R l m r = (R, 0, 8) := by
  unfold avTop
  exact if_neg hc
theorem avTop_keeps (R : Nat → Option (List Nat)) (l m r : Nat) : KeepsN R (avTop R l m r).1 := by
  have h := avJoin_keeps (nodeG R m) m 100 R l r ⟨rfl, rfl⟩
  by_cases hc : m ≠ 0 ∧ isR R l = true ∧ isR R m = true ∧ isR R r = true
  · rw [avTop_yes hc, okW_1]
    exact h
  · rw [avTop_no hc]
    exact KeepsN.refl R
theorem isR_root {R : Nat → Option (List Nat)} {t : BT} (h : t.At R) : isR R t.root = true := by
  unfold isR
  cases t with
  | nil => rfl
  | node x kx vx m k v l r => rw [BT.root, (h.root_at).1]; simp
/-- two trees and a node are joined to one -/
theorem avTop_bt {R : Nat → Option (List Nat)} {l r : BT} {x kx vx : Nat} {k v : ByteArray} (h0 : R 0 = none) (hl : l.At R) (hr : r.At R) (al : l.Avl) (ar : r.Avl) {m : Nat} {a b : BT} (hm : (BT.node x kx vx m k v a b).At R)
    (hn : (BT.node x kx vx 0 k v l r).hs.Nodup) (sz : l.size + r.size ≤ 100) :
    ∃ t : BT, BT.BalOut R (avTop R l.root x r.root).1 (avTop R l.root x r.root).2.1 (.node x kx vx 0 k v l r) t ∧ (avTop R l.root x r.root).2.2 = 0 ∧ max l.hgt r.hgt ≤ t.hgt ∧ t.hgt ≤ max l.hgt r.hgt + 1 := by
  obtain ⟨ex, gx⟩ := hm.root_at
  have hx0 := hm.1
  have l1 := BT.hgt_le l
  have l2 := BT.hgt_le r
  have hc : x ≠ 0 ∧ isR R l.root = true ∧ isR R x = true ∧ isR R r.root = true := ⟨hx0, isR_root hl, isR_root hm, isR_root hr⟩
  rw [avTop_yes hc, okW_1, okW_2, okW_3]
  have hk : (nodeG R x).key = kx := by rw [gx]
  have hv : (nodeG R x).val = vx := by rw [gx]
  have := BT.join_bt (nd := nodeG R x) (xm := x) (k := k) (v := v) 100 l r h0 hl hr al ar ex hx0 (by rw [hk]; exact hm.2.2.1) (by rw [hv]; exact hm.2.2.2.1) hm.2.2.2.2.1 hm.2.2.2.2.2.1 (by rw [hk, hv]; exact hn) (by omega) (by omega)
  rw [hk, hv] at this
  generalize avJoin (nodeG R x) x 100 R l.root r.root = p at *
  obtain ⟨t, o, t6, t7⟩ := this
  exact ⟨t, o, rfl, t6, t7⟩
end Go.Proofs.YtoifdmbffaaffaaGreatDoor
/- The walks of package avl: join. -/
set_option linter.unusedVariables false
set_option linter.unusedSimpArgs false
namespace Go.Proofs.YtoifdmbffaaffaaGreatDoor
open Go.RowKit Go.Shelf
section
variable {s : Nat} {F : Nat → Prop} {H : List Nat} {P q most last G : Nat}
set_option maxHeartbeats 8000000 in
set_option maxRecDepth 100000 in
theorem avJoin_at (m : Nd) (hokm : m.Ok) (xm : Nat) (hxm : xm < 18446744073709551616) : ∀ (f : Nat) (w : World) (R : Nat → Option (List Nat)) (l r : Nat), f ≤ 100 → l < 18446744073709551616 → r < 18446744073709551616 → StoreIs w s F R H P q most last G →
    Calls Tryz.prog 54 #[.pointer (some ⟨s, 0, none⟩), .int .u64 (l : Nat), .int .u64 (r : Nat), treeV m xm, .int .i64 ((100 - f : Nat) : Int)] w fun e w' => e = .returned (.int .u64 ((avJoin m xm f R l r).2 : Nat)) ∧ (avJoin m xm f R l r).2 < 18446744073709551616 ∧ StoreIs w' s F (avJoin m xm f R l r).1 H P q most last G ∧ Turn w F w' F
  | 0, w, R, l, r, hf, hl, hr, h => by
    have hmo : Tryz.prog.follows .mixedOrders = true := by kernel_rfl
    obtain ⟨n, hrd, _⟩ := h.rd
    have hGt := Lib.hid (fun W (hb : Below w.heap.size w W) y (hy : y < 18446744073709551616) => by have := avGet_at (hrd.below hb) y hy; unfold treeV at this; exact this)
    have hHt := Lib.hid (fun W (hb : Below w.heap.size w W) y (hy : y < 18446744073709551616) => avHeight_at (hrd.below hb) y hy)
    have hokG := Lib.hid (fun y => hrd.nodeG y)
    have hHs := Lib.hid h
    have hFwH := Lib.hid (fun b (hf : F b) => h.lt hf)
    obtain ⟨W0, hW0⟩ : ∃ W, W = w.alloc (Obj.cells #[.int .u64 (m.key : Nat), .int .u64 (m.val : Nat), .int .u64 (m.left : Nat), .int .u64 (m.right : Nat), .int .u64 (m.mark : Nat), .int .u64 (m.size : Nat), .int .u64 (xm : Nat)] 85) := ⟨_, rfl⟩
    have hX0 : Hid (Box W0 w.heap.size 85 [.int .u64 (m.key : Nat), .int .u64 (m.val : Nat), .int .u64 (m.left : Nat), .int .u64 (m.right : Nat), .int .u64 (m.mark : Nat), .int .u64 (m.size : Nat), .int .u64 (xm : Nat)]) := Lib.hid (by rw [hW0]; exact Box.new w 85 [.int .u64 (m.key : Nat), .int .u64 (m.val : Nat), .int .u64 (m.left : Nat), .int .u64 (m.right : Nat), .int .u64 (m.mark : Nat), .int .u64 (m.size : Nat), .int .u64 (xm : Nat)])
    have hB0 : Hid (Below w.heap.size w W0) := Lib.hid (by rw [hW0]; exact (Below.refl _ w).alloc (Nat.le_refl _) _)
    have hFb0 : ¬ F w.heap.size := fun hf => by have := hFwH.out _ hf; omega
    have hW0H := Lib.hid hW0
    clear h hrd hW0
    have hv : avJoin m xm 0 R l r = (withR R m xm l r, xm) := rfl
    unfold treeV
    go_enter Tryz.func54, Tryz.ntmps54
    go_wp2_with fail
    rw [← hW0H.out]
    refine (hHt.out _ hB0.out l hl).mono ?_
    rintro e w1 ⟨rfl, hb1⟩
    have hb1H := Lib.hid (hB0.out.trans (hb1.mono hB0.out.size))
    have hX0b := Lib.hid (hX0.out.below hb1)
    clear hb1
    go_wp2_with fail
    refine (hHt.out _ hb1H.out r hr).mono ?_
    rintro e w2 ⟨rfl, hb2'⟩
    have hb2 := Lib.hid (hb1H.out.trans (hb2'.mono hb1H.out.size))
    have hX0' := Lib.hid (hX0b.out.below hb2')
    clear hb2' hb1H hX0b hX0 hB0 hW0H
    have hwt := with_at (hHs.out.below hb2.out) m hokm xm l r hxm hl hr
    unfold treeV at hwt
    have hwtH := Lib.hid hwt
    clear hwt
    have c0 := hX0'.out.at' (i := 0) rfl
    have c1 := hX0'.out.at' (i := 1) rfl
    have c2 := hX0'.out.at' (i := 2) rfl
    have c3 := hX0'.out.at' (i := 3) rfl
    have c4 := hX0'.out.at' (i := 4) rfl
    have c5 := hX0'.out.at' (i := 5) rfl
    have c6 := hX0'.out.at' (i := 6) rfl
    have hvH := Lib.hid hv
    clear hv
    go_wp2_with fail
    refine hwtH.out.mono ?_
    rintro e w4 ⟨rfl, hS4, hT4⟩
    have hS4H := Lib.hid hS4
    have hT4H := Lib.hid ((Turn.below (F := F) hb2.out).trans hT4)
    clear hS4 hT4 hwtH c0 c1 c2 c3 c4 c5 c6
    go_wp2
    go_ret
    rw [hvH.out]
    exact ⟨rfl, hxm, hS4H.out, hT4H.out⟩
  | f + 1, w, R, l, r, hf, hl, hr, h => by
    have ih := avJoin_at m hokm xm hxm f
    have hmo : Tryz.prog.follows .mixedOrders = true := by kernel_rfl
    obtain ⟨n, hrd, _⟩ := h.rd
    have hGt := Lib.hid (fun W (hb : Below w.heap.size w W) y (hy : y < 18446744073709551616) => by have := avGet_at (hrd.below hb) y hy; unfold treeV at this; exact this)
    have hHt := Lib.hid (fun W (hb : Below w.heap.size w W) y (hy : y < 18446744073709551616) => avHeight_at (hrd.below hb) y hy)
    have hokG := Lib.hid (fun y => hrd.nodeG y)
    have hHs := Lib.hid h
    have hFwH := Lib.hid (fun b (hf : F b) => h.lt hf)
    obtain ⟨W0, hW0⟩ : ∃ W, W = w.alloc (Obj.cells #[.int .u64 (m.key : Nat), .int .u64 (m.val : Nat), .int .u64 (m.left : Nat), .int .u64 (m.right : Nat), .int .u64 (m.mark : Nat), .int .u64 (m.size : Nat), .int .u64 (xm : Nat)] 85) := ⟨_, rfl⟩
    have hX0 : Hid (Box W0 w.heap.size 85 [.int .u64 (m.key : Nat), .int .u64 (m.val : Nat), .int .u64 (m.left : Nat), .int .u64 (m.right : Nat), .int .u64 (m.mark : Nat), .int .u64 (m.size : Nat), .int .u64 (xm : Nat)]) := Lib.hid (by rw [hW0]; exact Box.new w 85 [.int .u64 (m.key : Nat), .int .u64 (m.val : Nat), .int .u64 (m.left : Nat), .int .u64 (m.right : Nat), .int .u64 (m.mark : Nat), .int .u64 (m.size : Nat), .int .u64 (xm : Nat)])
    have hB0 : Hid (Below w.heap.size w W0) := Lib.hid (by rw [hW0]; exact (Below.refl _ w).alloc (Nat.le_refl _) _)
    have hFb0 : ¬ F w.heap.size := fun hf => by have := hFwH.out _ hf; omega
    have hW0H := Lib.hid hW0
    clear h hrd hW0
    obtain ⟨d, hd⟩ : ∃ d, 100 - (f + 1) = d := ⟨_, rfl⟩
    have hdn : Hid (((100 - f : Nat) : Int) = (d : Int) + 1) := Lib.hid (by omega)
    rw [hd]
    have hd2 : d < 100 := by omega
    have d0 : ((d : Int) == 100) = false := by simp; omega
    have hv : avJoin m xm (f + 1) R l r = if wrap64 (avH R r + 1) < avH R l then
          avBal (withR (avJoin m xm f R (nodeG R l).right r).1 (nodeG R l) l (nodeG R l).left (avJoin m xm f R (nodeG R l).right r).2) l
        else if wrap64 (avH R l + 1) < avH R r then
          avBal (withR (avJoin m xm f R l (nodeG R r).left).1 (nodeG R r) r (avJoin m xm f R l (nodeG R r).left).2 (nodeG R r).right) r
        else (withR R m xm l r, xm) := by rw [avJoin]
    clear hd
    unfold treeV
    go_enter Tryz.func54, Tryz.ntmps54
    go_wp2_with fail
    rw [← hW0H.out]
    refine (hHt.out _ hB0.out l hl).mono ?_
    rintro e w1 ⟨rfl, hb1⟩
    have hb1H := Lib.hid (hB0.out.trans (hb1.mono hB0.out.size))
    have hX0b := Lib.hid (hX0.out.below hb1)
    clear hb1
    go_wp2_with fail
    refine (hHt.out _ hb1H.out r hr).mono ?_
    rintro e w2 ⟨rfl, hb2'⟩
    have hb2 := Lib.hid (hb1H.out.trans (hb2'.mono hb1H.out.size))
    have hX0' := Lib.hid (hX0b.out.below hb2')
    clear hb2' hb1H hX0b hX0 hB0 hW0H
    by_cases q1 : wrap64 (avH R r + 1) < avH R l
    · have d1 : decide (wrap64 (avH R r + 1) < avH R l) = true := by simp; omega
      rw [if_pos q1] at hv
      have hg3 := hGt.out _ hb2.out l hl
      obtain ⟨t, ht⟩ : ∃ t, nodeG R l = t := ⟨_, rfl⟩
      rw [ht] at hg3 hv
      have hokt := hokG.out l
      rw [ht] at hokt
      have hoktH := Lib.hid hokt
      have hg3H := Lib.hid hg3
      clear hg3 hokt ht
      go_wp2_with fail
      refine hg3H.out.mono ?_
      rintro e w3 ⟨rfl, hb3⟩
      have hb3H := Lib.hid (hb2.out.trans (hb3.mono hb2.out.size))
      have hz3 := hb3H.out.size
      have hX0g := Lib.hid (hX0'.out.below hb3)
      clear hb3 hg3H
      go_wp2_with fail
      obtain ⟨W3, hW⟩ : ∃ W, W = w3.alloc (Obj.cells #[.int .u64 (t.key : Nat), .int .u64 (t.val : Nat), .int .u64 (t.left : Nat), .int .u64 (t.right : Nat), .int .u64 (t.mark : Nat), .int .u64 (t.size : Nat), .int .u64 (l : Nat)] 85) := ⟨_, rfl⟩
      obtain ⟨b3, hb⟩ : ∃ b, b = w3.heap.size := ⟨_, rfl⟩
      have hX3 : Hid (Box W3 b3 85 [.int .u64 (t.key : Nat), .int .u64 (t.val : Nat), .int .u64 (t.left : Nat), .int .u64 (t.right : Nat), .int .u64 (t.mark : Nat), .int .u64 (t.size : Nat), .int .u64 (l : Nat)]) := Lib.hid (by rw [hW, hb]; exact Box.new w3 85 [.int .u64 (t.key : Nat), .int .u64 (t.val : Nat), .int .u64 (t.left : Nat), .int .u64 (t.right : Nat), .int .u64 (t.mark : Nat), .int .u64 (t.size : Nat), .int .u64 (l : Nat)])
      have hBW3 : Hid (Below w.heap.size w W3) := Lib.hid (by rw [hW]; exact hb3H.out.alloc hz3 _)
      have hX0w := Lib.hid (show Box W3 _ _ _ by rw [hW]; exact hX0g.out.alloc _)
      have hFb3 : ¬ F b3 := fun hf => by have := hFwH.out b3 hf; omega
      rw [← hW, ← hb]
      clear hW hb hz3 hb3H
      have c0 := fun X : Kp W3 F => Kp.cell (hX0w.out.at' (i := 0) rfl) hFb0 X
      have c1 := fun X : Kp W3 F => Kp.cell (hX0w.out.at' (i := 1) rfl) hFb0 X
      have c2 := fun X : Kp W3 F => Kp.cell (hX0w.out.at' (i := 2) rfl) hFb0 X
      have c3 := fun X : Kp W3 F => Kp.cell (hX0w.out.at' (i := 3) rfl) hFb0 X
      have c4 := fun X : Kp W3 F => Kp.cell (hX0w.out.at' (i := 4) rfl) hFb0 X
      have c5 := fun X : Kp W3 F => Kp.cell (hX0w.out.at' (i := 5) rfl) hFb0 X
      have c6 := fun X : Kp W3 F => Kp.cell (hX0w.out.at' (i := 6) rfl) hFb0 X
      have d0 := fun X : Kp W3 F => Kp.cell (hX3.out.at' (i := 0) rfl) hFb3 X
      have d1 := fun X : Kp W3 F => Kp.cell (hX3.out.at' (i := 1) rfl) hFb3 X
      have d2 := fun X : Kp W3 F => Kp.cell (hX3.out.at' (i := 2) rfl) hFb3 X
      have d3 := fun X : Kp W3 F => Kp.cell (hX3.out.at' (i := 3) rfl) hFb3 X
      have d4 := fun X : Kp W3 F => Kp.cell (hX3.out.at' (i := 4) rfl) hFb3 X
      have d5 := fun X : Kp W3 F => Kp.cell (hX3.out.at' (i := 5) rfl) hFb3 X
      have d6 := fun X : Kp W3 F => Kp.cell (hX3.out.at' (i := 6) rfl) hFb3 X
      refine wp_region_row (fun w' => ∃ X : Kp W3 F, w' = X.W) [0, 1, 2, 3, 4, 5, 6, 7, 8, 9, 10, 11, 12, 13] [14, 15, 16, 17] hmo (by kernel_rfl) rfl (by kernel_rfl) (Kp.start _ _) (fun _ _ d _ _ h => by cases d <;> exact h) ?_
      refine wpReads_step _ _ rfl rfl (by rintro _ ⟨X, rfl⟩; go_simp; exact rfl) ?_
      go_simp
      refine wpReads_step _ _ rfl rfl (by rintro _ ⟨X, rfl⟩; go_simp; exact rfl) ?_
      go_simp
      refine wpReads_step _ _ rfl rfl (by rintro _ ⟨X, rfl⟩; go_simp; exact rfl) ?_
      go_simp
      refine wpReads_step _ _ rfl rfl (by rintro _ ⟨X, rfl⟩; go_simp; exact rfl) ?_
      go_simp
      refine wpReads_step _ _ rfl rfl (by rintro _ ⟨X, rfl⟩; go_simp; exact rfl) ?_
      go_simp
      refine wpReads_step _ _ rfl rfl (by rintro _ ⟨X, rfl⟩; go_simp; exact rfl) ?_
      go_simp
      refine wpReads_step _ _ rfl rfl (by rintro _ ⟨X, rfl⟩; go_simp; exact rfl) ?_
      go_simp
      refine wpReads_step _ _ rfl rfl (by rintro _ ⟨X, rfl⟩; go_simp; exact rfl) ?_
      go_simp
      refine wpReads_step _ _ rfl rfl (by rintro _ ⟨X, rfl⟩; go_simp; exact rfl) ?_
      go_simp
      refine wpReads_step _ _ rfl rfl (by rintro _ ⟨X, rfl⟩; go_simp; exact rfl) ?_
      go_simp
      refine wpReads_step _ _ rfl rfl (by rintro _ ⟨X, rfl⟩; go_simp; exact rfl) ?_
      go_simp
      refine wpReads_step _ _ rfl rfl (by rintro _ ⟨X, rfl⟩; go_simp; exact rfl) ?_
      go_simp
      refine wpReads_step _ _ rfl rfl (by rintro _ ⟨X, rfl⟩; go_simp; exact rfl) ?_
      go_simp
      refine wpReads_step _ _ rfl rfl (by rintro _ ⟨X, rfl⟩; go_simp; exact rfl) ?_
      go_simp
      refine wpReads_nil ?_
      clear c0 c1 c2 c3 c4 c5 c6 d0 d1 d2 d3 d4 d5 d6
      have hih := ih W3.drew R t.right r (by omega) hoktH.out.right hr (hHs.out.below (hBW3.out.trans ((below_drawn W3).mono hBW3.out.size)))
      rw [hdn.out] at hih
      unfold treeV at hih
      generalize avJoin m xm f R t.right r = p4 at *
      obtain ⟨R4, y4⟩ := p4
      simp only at hih hv
      have hihH := Lib.hid hih
      have hvH := Lib.hid hv
      clear hih hv
      refine wpActs_step _ rfl (fun K1 hK1 => ?_)
      go_wp2_with fail
      refine hihH.out.mono ?_
      rintro e w4 ⟨rfl, hy4, hS4, hT4⟩
      have hT4H : Hid (Turn W3 F w4 F) := Lib.hid ((Turn.below (below_drawn W3)).trans hT4)
      have hwt := with_at hS4 t hoktH.out l t.left y4 hl hoktH.out.left hy4
      unfold treeV at hwt
      have hwtH := Lib.hid hwt
      clear hS4 hT4 hihH hwt
      go_wp2
      refine hK1 _ _ ⟨⟨w4, F, hT4H.out⟩, rfl⟩ ?_
      clear hK1 K1
      refine wpActs_step _ rfl (fun K2 hK2 => ?_)
      go_wp2_with fail
      refine hwtH.out.mono ?_
      rintro e w5 ⟨rfl, hS5, hT5⟩
      have hT5H := Lib.hid (hT4H.out.trans hT5)
      have hbl := Lib.hid (avBal_at hS5 l hl)
      clear hS5 hT5 hwtH
      go_wp2
      refine hK2 _ _ ⟨⟨w5, F, hT5H.out⟩, rfl⟩ ?_
      clear hK2 K2
      refine wpActs_step _ rfl (fun K3 hK3 => ?_)
      go_wp2_with fail
      refine hbl.out.mono ?_
      rintro e w6 ⟨rfl, hlt6, hS6, hT6⟩
      have hT6H := Lib.hid (hT5H.out.trans hT6)
      have hS6H := Lib.hid hS6
      clear hS6 hT6 hbl
      go_wp2
      refine hK3 _ _ ⟨⟨w6, F, hT6H.out⟩, rfl⟩ ?_
      clear hK3 K3
      refine wpActs_step _ rfl (fun K4 hK4 => ?_)
      go_wp2
      refine hK4 _ _ ⟨⟨w6, F, hT6H.out⟩, rfl⟩ ?_
      clear hK4 K4
      refine wpActs_nil ?_
      go_wp2
      go_ret
      rw [hvH.out]
      exact ⟨rfl, hlt6, hS6H.out, (Turn.below hBW3.out).trans hT6H.out⟩
    · have d1 : decide (wrap64 (avH R r + 1) < avH R l) = false := by simp; omega
      rw [if_neg q1] at hv
      by_cases q2 : wrap64 (avH R l + 1) < avH R r
      · have d2 : decide (wrap64 (avH R l + 1) < avH R r) = true := by simp; omega
        rw [if_pos q2] at hv
        have hg3 := hGt.out _ hb2.out r hr
        obtain ⟨t, ht⟩ : ∃ t, nodeG R r = t := ⟨_, rfl⟩
        rw [ht] at hg3 hv
        have hokt := hokG.out r
        rw [ht] at hokt
        have hoktH := Lib.hid hokt
        have hg3H := Lib.hid hg3
        clear hg3 hokt ht
        go_wp2_with fail
        refine hg3H.out.mono ?_
        rintro e w3 ⟨rfl, hb3⟩
        have hb3H := Lib.hid (hb2.out.trans (hb3.mono hb2.out.size))
        have hz3 := hb3H.out.size
        have hX0g := Lib.hid (hX0'.out.below hb3)
        clear hb3 hg3H
        go_wp2_with fail
        obtain ⟨W3, hW⟩ : ∃ W, W = w3.alloc (Obj.cells #[.int .u64 (t.key : Nat), .int .u64 (t.val : Nat), .int .u64 (t.left : Nat), .int .u64 (t.right : Nat), .int .u64 (t.mark : Nat), .int .u64 (t.size : Nat), .int .u64 (r : Nat)] 85) := ⟨_, rfl⟩
        obtain ⟨b3, hb⟩ : ∃ b, b = w3.heap.size := ⟨_, rfl⟩
        have hX3 : Hid (Box W3 b3 85 [.int .u64 (t.key : Nat), .int .u64 (t.val : Nat), .int .u64 (t.left : Nat), .int .u64 (t.right : Nat), .int .u64 (t.mark : Nat), .int .u64 (t.size : Nat), .int .u64 (r : Nat)]) := Lib.hid (by rw [hW, hb]; exact Box.new w3 85 [.int .u64 (t.key : Nat), .int .u64 (t.val : Nat), .int .u64 (t.left : Nat), .int .u64 (t.right : Nat), .int .u64 (t.mark : Nat), .int .u64 (t.size : Nat), .int .u64 (r : Nat)])
        have hBW3 : Hid (Below w.heap.size w W3) := Lib.hid (by rw [hW]; exact hb3H.out.alloc hz3 _)
        have hX0w := Lib.hid (show Box W3 _ _ _ by rw [hW]; exact hX0g.out.alloc _)
        have hFb3 : ¬ F b3 := fun hf => by have := hFwH.out b3 hf; omega
        rw [← hW, ← hb]
        clear hW hb hz3 hb3H
        have c0 := fun X : Kp W3 F => Kp.cell (hX0w.out.at' (i := 0) rfl) hFb0 X
        have c1 := fun X : Kp W3 F => Kp.cell (hX0w.out.at' (i := 1) rfl) hFb0 X
        have c2 := fun X : Kp W3 F => Kp.cell (hX0w.out.at' (i := 2) rfl) hFb0 X
        have c3 := fun X : Kp W3 F => Kp.cell (hX0w.out.at' (i := 3) rfl) hFb0 X
        have c4 := fun X : Kp W3 F => Kp.cell (hX0w.out.at' (i := 4) rfl) hFb0 X
        have c5 := fun X : Kp W3 F => Kp.cell (hX0w.out.at' (i := 5) rfl) hFb0 X
        have c6 := fun X : Kp W3 F => Kp.cell (hX0w.out.at' (i := 6) rfl) hFb0 X
        have d0 := fun X : Kp W3 F => Kp.cell (hX3.out.at' (i := 0) rfl) hFb3 X
        have d1 := fun X : Kp W3 F => Kp.cell (hX3.out.at' (i := 1) rfl) hFb3 X
        have d2 := fun X : Kp W3 F => Kp.cell (hX3.out.at' (i := 2) rfl) hFb3 X
        have d3 := fun X : Kp W3 F => Kp.cell (hX3.out.at' (i := 3) rfl) hFb3 X
        have d4 := fun X : Kp W3 F => Kp.cell (hX3.out.at' (i := 4) rfl) hFb3 X
        have d5 := fun X : Kp W3 F => Kp.cell (hX3.out.at' (i := 5) rfl) hFb3 X
        have d6 := fun X : Kp W3 F => Kp.cell (hX3.out.at' (i := 6) rfl) hFb3 X
        refine wp_region_row (fun w' => ∃ X : Kp W3 F, w' = X.W) [0, 1, 2, 3, 4, 5, 6, 7, 8, 9, 10, 12, 13, 14] [11, 15, 16, 17] hmo (by kernel_rfl) rfl (by kernel_rfl) (Kp.start _ _) (fun _ _ d _ _ h => by cases d <;> exact h) ?_
        refine wpReads_step _ _ rfl rfl (by rintro _ ⟨X, rfl⟩; go_simp; exact rfl) ?_
        go_simp
        refine wpReads_step _ _ rfl rfl (by rintro _ ⟨X, rfl⟩; go_simp; exact rfl) ?_
        go_simp
        refine wpReads_step _ _ rfl rfl (by rintro _ ⟨X, rfl⟩; go_simp; exact rfl) ?_
        go_simp
        refine wpReads_step _ _ rfl rfl (by rintro _ ⟨X, rfl⟩; go_simp; exact rfl) ?_
        go_simp
        refine wpReads_step _ _ rfl rfl (by rintro _ ⟨X, rfl⟩; go_simp; exact rfl) ?_
        go_simp
        refine wpReads_step _ _ rfl rfl (by rintro _ ⟨X, rfl⟩; go_simp; exact rfl) ?_
        go_simp
        refine wpReads_step _ _ rfl rfl (by rintro _ ⟨X, rfl⟩; go_simp; exact rfl) ?_
        go_simp
        refine wpReads_step _ _ rfl rfl (by rintro _ ⟨X, rfl⟩; go_simp; exact rfl) ?_
        go_simp
        refine wpReads_step _ _ rfl rfl (by rintro _ ⟨X, rfl⟩; go_simp; exact rfl) ?_
        go_simp
        refine wpReads_step _ _ rfl rfl (by rintro _ ⟨X, rfl⟩; go_simp; exact rfl) ?_
        go_simp
        refine wpReads_step _ _ rfl rfl (by rintro _ ⟨X, rfl⟩; go_simp; exact rfl) ?_
        go_simp
        refine wpReads_step _ _ rfl rfl (by rintro _ ⟨X, rfl⟩; go_simp; exact rfl) ?_
        go_simp
        refine wpReads_step _ _ rfl rfl (by rintro _ ⟨X, rfl⟩; go_simp; exact rfl) ?_
        go_simp
        refine wpReads_step _ _ rfl rfl (by rintro _ ⟨X, rfl⟩; go_simp; exact rfl) ?_
        go_simp
        refine wpReads_nil ?_
        clear c0 c1 c2 c3 c4 c5 c6 d0 d1 d2 d3 d4 d5 d6
        have hih := ih W3.drew R l t.left (by omega) hl hoktH.out.left (hHs.out.below (hBW3.out.trans ((below_drawn W3).mono hBW3.out.size)))
        rw [hdn.out] at hih
        unfold treeV at hih
        generalize avJoin m xm f R l t.left = p4 at *
        obtain ⟨R4, y4⟩ := p4
        simp only at hih hv
        have hihH := Lib.hid hih
        have hvH := Lib.hid hv
        clear hih hv
        refine wpActs_step _ rfl (fun K1 hK1 => ?_)
        go_wp2_with fail
        refine hihH.out.mono ?_
        rintro e w4 ⟨rfl, hy4, hS4, hT4⟩
        have hT4H : Hid (Turn W3 F w4 F) := Lib.hid ((Turn.below (below_drawn W3)).trans hT4)
        have hwt := with_at hS4 t hoktH.out r y4 t.right hr hy4 hoktH.out.right
        unfold treeV at hwt
        have hwtH := Lib.hid hwt
        clear hS4 hT4 hihH hwt
        go_wp2
        refine hK1 _ _ ⟨⟨w4, F, hT4H.out⟩, rfl⟩ ?_
        clear hK1 K1
        refine wpActs_step _ rfl (fun K2 hK2 => ?_)
        go_wp2_with fail
        refine hwtH.out.mono ?_
        rintro e w5 ⟨rfl, hS5, hT5⟩
        have hT5H := Lib.hid (hT4H.out.trans hT5)
        have hbl := Lib.hid (avBal_at hS5 r hr)
        clear hS5 hT5 hwtH
        go_wp2
        refine hK2 _ _ ⟨⟨w5, F, hT5H.out⟩, rfl⟩ ?_
        clear hK2 K2
        refine wpActs_step _ rfl (fun K3 hK3 => ?_)
        go_wp2_with fail
        refine hbl.out.mono ?_
        rintro e w6 ⟨rfl, hlt6, hS6, hT6⟩
        have hT6H := Lib.hid (hT5H.out.trans hT6)
        have hS6H := Lib.hid hS6
        clear hS6 hT6 hbl
        go_wp2
        refine hK3 _ _ ⟨⟨w6, F, hT6H.out⟩, rfl⟩ ?_
        clear hK3 K3
        refine wpActs_step _ rfl (fun K4 hK4 => ?_)
        go_wp2
        refine hK4 _ _ ⟨⟨w6, F, hT6H.out⟩, rfl⟩ ?_
        clear hK4 K4
        refine wpActs_nil ?_
        go_wp2
        go_ret
        rw [hvH.out]
        exact ⟨rfl, hlt6, hS6H.out, (Turn.below hBW3.out).trans hT6H.out⟩
      · have d2 : decide (wrap64 (avH R l + 1) < avH R r) = false := by simp; omega
        rw [if_neg q2] at hv
        have hwt := with_at (hHs.out.below hb2.out) m hokm xm l r hxm hl hr
        unfold treeV at hwt
        have hwtH := Lib.hid hwt
        clear hwt
        have c0 := hX0'.out.at' (i := 0) rfl
        have c1 := hX0'.out.at' (i := 1) rfl
        have c2 := hX0'.out.at' (i := 2) rfl
        have c3 := hX0'.out.at' (i := 3) rfl
        have c4 := hX0'.out.at' (i := 4) rfl
        have c5 := hX0'.out.at' (i := 5) rfl
        have c6 := hX0'.out.at' (i := 6) rfl
        have hvH := Lib.hid hv
        clear hv
        go_wp2_with fail
        refine hwtH.out.mono ?_
        rintro e w4 ⟨rfl, hS4, hT4⟩
        have hS4H := Lib.hid hS4
        have hT4H := Lib.hid ((Turn.below (F := F) hb2.out).trans hT4)
        clear hS4 hT4 hwtH c0 c1 c2 c3 c4 c5 c6
        go_wp2
        go_ret
        rw [hvH.out]
        exact ⟨rfl, hxm, hS4H.out, hT4H.out⟩
end
end Go.Proofs.YtoifdmbffaaffaaGreatDoor
/- The walks of package avl: is, Join. -/
set_option linter.unusedVariables false
set_option linter.unusedSimpArgs false
namespace Go.Proofs.YtoifdmbffaaffaaGreatDoor
open Go.RowKit Go.Shelf
set_option maxRecDepth 100000 in
theorem avIs_at {w : World} {s N : Nat} {R : Nat → Option (List Nat)} {n : Nat} (h : Rd N w s R n) (x : Nat) (hx : x < 18446744073709551616) : Calls Tryz.prog 53 #[.pointer (some ⟨s, 0, none⟩), .int .u64 (x : Nat)] w fun e w' => e = .returned (.bool (isR R x)) ∧ Below w.heap.size w w' := by
  obtain ⟨nd, hnd⟩ : ∃ nd, nodeG R x = nd := ⟨_, rfl⟩
  obtain ⟨z, hz⟩ : ∃ z, nodeE R x = z := ⟨_, rfl⟩
  have hG := Lib.hid (nget_lit h x hx nd hnd z hz)
  have hv : isR R x = (x == 0 || z == 0) := by unfold isR; rw [hz]
  by_cases h0 : x = 0
  · have d : ((x : Int) == 0) = true := by simp; omega
    have hv2 : Hid (isR R x = true) := Lib.hid (by rw [hv, h0]; rfl)
    clear h hnd hz hv h0
    go_enter Tryz.func53, Tryz.ntmps53
    go_wp2_with fail
    refine hG.out.mono ?_
    rintro e w1 ⟨rfl, hb⟩
    have hbH := Lib.hid hb
    have hz1 := hb.size
    clear hb
    go_wp2
    go_ret
    exact ⟨by rw [hv2.out]; rfl, hbH.out.alloc hz1 _⟩
  · have d : ((x : Int) == 0) = false := by simp; omega
    have hv2 : Hid (isR R x = (z == 0)) := Lib.hid (by rw [hv]; simp [h0])
    have hzz : z = 0 ∨ z ≠ 0 := by omega
    rcases hzz with hz0 | hz0
    · have d2 : ((z : Int) == 0) = true := by simp; omega
      have hv3 : Hid (isR R x = true) := Lib.hid (by rw [hv2.out, hz0]; rfl)
      clear h hnd hz hv h0 hz0
      go_enter Tryz.func53, Tryz.ntmps53
      go_wp2_with fail
      refine hG.out.mono ?_
      rintro e w1 ⟨rfl, hb⟩
      have hbH := Lib.hid hb
      have hz1 := hb.size
      clear hb
      go_wp2
      go_ret
      exact ⟨by rw [hv3.out]; rfl, hbH.out.alloc hz1 _⟩
    · have d2 : ((z : Int) == 0) = false := by simp; omega
      have hv3 : Hid (isR R x = false) := Lib.hid (by rw [hv2.out]; simpa using hz0)
      clear h hnd hz hv h0 hz0
      go_enter Tryz.func53, Tryz.ntmps53
      go_wp2_with fail
      refine hG.out.mono ?_
      rintro e w1 ⟨rfl, hb⟩
      have hbH := Lib.hid hb
      have hz1 := hb.size
      clear hb
      go_wp2
      go_ret
      exact ⟨by rw [hv3.out]; rfl, hbH.out.alloc hz1 _⟩
section
variable {w w' : World} {s : Nat} {F : Nat → Prop} {R : Nat → Option (List Nat)} {H : List Nat} {P q most last G : Nat}
set_option maxHeartbeats 4000000 in
set_option maxRecDepth 100000 in
theorem avTop_at (h : StoreIs w s F R H P q most last G) (l m r : Nat) (hl : l < 18446744073709551616) (hm : m < 18446744073709551616) (hr : r < 18446744073709551616) :
    Calls Tryz.prog 16 #[.pointer (some ⟨s, 0, none⟩), .int .u64 (l : Nat), .int .u64 (m : Nat), .int .u64 (r : Nat)] w fun e w' => e = .returned (.tuple #[.int .u64 ((avTop R l m r).2.1 : Nat), .int .i64 ((avTop R l m r).2.2 : Nat)]) ∧ StoreIs w' s F (avTop R l m r).1 H P q most last G ∧ Turn w F w' F := by
  obtain ⟨n, hrd, _⟩ := h.rd
  have hLen := rlen_at hrd 0 (by omega)
  have hI := Lib.hid (fun W (hb : Below w.heap.size w W) y (hy : y < 18446744073709551616) => avIs_at (hrd.below hb) y hy)
  have hGt := Lib.hid (fun W (hb : Below w.heap.size w W) => by have := avGet_at (hrd.below hb) m hm; unfold treeV at this; exact this)
  have hokm := Lib.hid (hrd.nodeG m)
  have hHs := Lib.hid h
  obtain ⟨lv, hlv, hle⟩ : ∃ (a b : Nat), lenR R 0 = .tuple #[.int .i64 (a : Nat), .int .i64 (b : Nat)] ∧ b ≠ 1 := by
    unfold lenR
    cases R 0 with
    | none => exact ⟨0, 7, rfl, by decide⟩
    | some ws => exact ⟨ws.length, 0, rfl, by decide⟩
  rw [hle.1] at hLen
  have hl1 := hle.2
  have dl : ((hlv : Int) == 1) = false := by simp; omega
  have hLenH := Lib.hid hLen
  clear h hrd hLen hle
  have fin : ∀ (hc : ¬ (m ≠ 0 ∧ isR R l = true ∧ isR R m = true ∧ isR R r = true)), Hid (avTop R l m r = (R, 0, 8)) := fun hc => Lib.hid (avTop_no hc)
  by_cases hm0 : m = 0
  · have d0 : ((m : Int) == 0) = true := by simp; omega
    have hv := fin (fun hc => hc.1 hm0)
    clear fin hm0
    go_enter Tryz.func16, Tryz.ntmps16
    go_wp2_with fail
    refine hLenH.out.mono ?_
    rintro e w1 ⟨rfl, rfl⟩
    go_wp2
    go_ret2
    rw [hv.out]
    exact ⟨rfl, hHs.out, Turn.refl _ _⟩
  · have d0 : ((m : Int) == 0) = false := by simp; omega
    cases h1 : isR R l with
    | false =>
      have hv := fin (fun hc => by rw [h1] at hc; cases hc.2.1)
      have hi1 := Lib.hid (hI.out w (Below.refl _ _) l hl)
      rw [h1] at hi1
      clear fin h1 hm0 hI
      go_enter Tryz.func16, Tryz.ntmps16
      go_wp2_with fail
      refine hLenH.out.mono ?_
      rintro e w1 ⟨rfl, rfl⟩
      go_wp2_with fail
      refine hi1.out.mono ?_
      rintro e w1 ⟨rfl, hb1⟩
      have hb1H := Lib.hid hb1
      clear hb1
      go_wp2
      go_ret2
      rw [hv.out]
      exact ⟨rfl, hHs.out.below hb1H.out, Turn.below hb1H.out⟩
    | true =>
      have hi1 := Lib.hid (hI.out w (Below.refl _ _) l hl)
      have hi2 := Lib.hid (fun W (hb : Below w.heap.size w W) => hI.out W hb m hm)
      rw [h1] at hi1
      cases h2 : isR R m with
      | false =>
        have hv := fin (fun hc => by rw [h2] at hc; cases hc.2.2.1)
        rw [h2] at hi2
        clear fin h1 h2 hm0 hI
        go_enter Tryz.func16, Tryz.ntmps16
        go_wp2_with fail
        refine hLenH.out.mono ?_
        rintro e w1 ⟨rfl, rfl⟩
        go_wp2_with fail
        refine hi1.out.mono ?_
        rintro e w1 ⟨rfl, hb1⟩
        have hb1H := Lib.hid hb1
        clear hb1
        go_wp2_with fail
        refine (hi2.out _ hb1H.out).mono ?_
        rintro e w2 ⟨rfl, hb2⟩
        have hb2H := Lib.hid (hb1H.out.trans (hb2.mono hb1H.out.size))
        clear hb2
        go_wp2
        go_ret2
        rw [hv.out]
        exact ⟨rfl, hHs.out.below hb2H.out, Turn.below hb2H.out⟩
      | true =>
        have hi3 := Lib.hid (fun W (hb : Below w.heap.size w W) => hI.out W hb r hr)
        rw [h2] at hi2
        cases h3 : isR R r with
        | false =>
          have hv := fin (fun hc => by rw [h3] at hc; cases hc.2.2.2)
          rw [h3] at hi3
          clear fin h1 h2 h3 hm0 hI
          go_enter Tryz.func16, Tryz.ntmps16
          go_wp2_with fail
          refine hLenH.out.mono ?_
          rintro e w1 ⟨rfl, rfl⟩
          go_wp2_with fail
          refine hi1.out.mono ?_
          rintro e w1 ⟨rfl, hb1⟩
          have hb1H := Lib.hid hb1
          clear hb1
          go_wp2_with fail
          refine (hi2.out _ hb1H.out).mono ?_
          rintro e w2 ⟨rfl, hb2⟩
          have hb2H := Lib.hid (hb1H.out.trans (hb2.mono hb1H.out.size))
          clear hb2
          go_wp2_with fail
          refine (hi3.out _ hb2H.out).mono ?_
          rintro e w3 ⟨rfl, hb3⟩
          have hb3H := Lib.hid (hb2H.out.trans (hb3.mono hb2H.out.size))
          clear hb3
          go_wp2
          go_ret2
          rw [hv.out]
          exact ⟨rfl, hHs.out.below hb3H.out, Turn.below hb3H.out⟩
        | true =>
          have hv := Lib.hid (avTop_yes (R := R) (l := l) (m := m) (r := r) ⟨hm0, h1, h2, h3⟩)
          have hj := Lib.hid (fun W (hb : Below w.heap.size w W) => avJoin_at (nodeG R m) hokm.out m hm 100 W R l r (Nat.le_refl _) hl hr (hHs.out.below hb))
          unfold treeV at hj
          rw [h3] at hi3
          generalize avJoin (nodeG R m) m 100 R l r = p at *
          have hj2 : Hid (∀ W, Below w.heap.size w W → Calls Tryz.prog 54 #[.pointer (some ⟨s, 0, none⟩), .int .u64 (l : Nat), .int .u64 (r : Nat), .agg #[.int .u64 ((nodeG R m).key : Nat), .int .u64 ((nodeG R m).val : Nat), .int .u64 ((nodeG R m).left : Nat), .int .u64 ((nodeG R m).right : Nat), .int .u64 ((nodeG R m).mark : Nat), .int .u64 ((nodeG R m).size : Nat), .int .u64 (m : Nat)], .int .i64 0] W fun e w' => e = .returned (.int .u64 (p.2 : Nat)) ∧ p.2 < 18446744073709551616 ∧ StoreIs w' s F p.1 H P q most last G ∧ Turn W F w' F) := hj
          clear fin h1 h2 h3 hm0 hI hj
          go_enter Tryz.func16, Tryz.ntmps16
          go_wp2_with fail
          refine hLenH.out.mono ?_
          rintro e w1 ⟨rfl, rfl⟩
          go_wp2_with fail
          refine hi1.out.mono ?_
          rintro e w1 ⟨rfl, hb1⟩
          have hb1H := Lib.hid hb1
          clear hb1
          go_wp2_with fail
          refine (hi2.out _ hb1H.out).mono ?_
          rintro e w2 ⟨rfl, hb2⟩
          have hb2H := Lib.hid (hb1H.out.trans (hb2.mono hb1H.out.size))
          clear hb2
          go_wp2_with fail
          refine (hi3.out _ hb2H.out).mono ?_
          rintro e w3 ⟨rfl, hb3⟩
          have hb3H := Lib.hid (hb2H.out.trans (hb3.mono hb2H.out.size))
          clear hb3
          go_wp2_with fail
          refine (hGt.out _ hb3H.out).mono ?_
          rintro e w4 ⟨rfl, hb4⟩
          have hb4H := Lib.hid (hb3H.out.trans (hb4.mono hb3H.out.size))
          clear hb4
          go_wp2_with fail
          refine (hj2.out _ hb4H.out).mono ?_
          rintro e w5 ⟨rfl, hlt, hS5, hT5⟩
          have hS5H := Lib.hid hS5
          have hT5H := Lib.hid ((Turn.below (F := F) hb4H.out).trans hT5)
          clear hS5 hT5
          go_wp2
          go_ret2
          rw [hv.out, okW_1, okW_2, okW_3]
          exact ⟨rfl, hS5H.out, hT5H.out⟩
end
end Go.Proofs.YtoifdmbffaaffaaGreatDoor
/- The walks of package avl: Check. -/
set_option linter.unusedVariables false
set_option linter.unusedSimpArgs false
namespace Go.Proofs.YtoifdmbffaaffaaGreatDoor
open Go.RowKit Go.Shelf
/-- what Check finds wrong with a node: its height, its sides -/
def avBad1 (R : Nat → Option (List Nat)) (x : Nat) : Bool := (((nodeG R x).mark : Nat) : Int) != ((toU (wrap64 (max (avH R (nodeG R x).left) (avH R (nodeG R x).right) + 1)) : Nat) : Int)
def avBad2 (R : Nat → Option (List Nat)) (x : Nat) : Bool := decide (wrap64 (avH R (nodeG R x).right + 1) < avH R (nodeG R x).left)
def avBad3 (R : Nat → Option (List Nat)) (x : Nat) : Bool := decide (wrap64 (avH R (nodeG R x).left + 1) < avH R (nodeG R x).right)
def avBad (R : Nat → Option (List Nat)) (x : Nat) : Bool := avBad1 R x || avBad2 R x || avBad3 R x
/-- what Check answers -/
def acheckR (R : Nat → Option (List Nat)) (n root : Nat) : Nat := if checkR R n root ≠ 0 then checkR R n root else if (inR R n root).any (avBad R) then 8 else 0
section
variable {w w' : World} {s N : Nat} {R : Nat → Option (List Nat)} {n : Nat}
theorem Bel.start (w : World) : ∃ X : Bel w, { w with drawn := w.drawn + 1 } = X.W := ⟨⟨_, below_drawn w⟩, rfl⟩
set_option maxHeartbeats 4000000 in
set_option maxRecDepth 100000 in
theorem avCheck_at (h : Rd N w s R n) (hsh : Short R) (x : Nat) (hx : x < 18446744073709551616) :
    Calls Tryz.prog 17 #[.pointer (some ⟨s, 0, none⟩), .int .u64 (x : Nat)] w fun e w' => e = .returned (.int .i64 (acheckR R n x : Nat)) ∧ Below w.heap.size w w' := by
  have hmo : Tryz.prog.follows .mixedOrders = true := by kernel_rfl
  have hCk := check_at h hsh x hx
  have hLi := Lib.hid (fun W (hb : Below w.heap.size w W) => list_at (h.below hb) x hx)
  have hGt := Lib.hid (fun W (hb : Below w.heap.size w W) y (hy : y < 18446744073709551616) => by have := avGet_at (h.below hb) y hy; unfold treeV at this; exact this)
  have hHt := Lib.hid (fun W (hb : Below w.heap.size w W) y (hy : y < 18446744073709551616) => avHeight_at (h.below hb) y hy)
  have hokG := Lib.hid (fun y => h.nodeG y)
  have hlen := inR_len R n x
  have hnle := h.le
  have hLlt := Lib.hid (fun y (hy : y ∈ inR R n x) => inR_lt (fun z => h.nodeG z) hx y hy)
  obtain ⟨c, hc⟩ : ∃ c, checkR R n x = c := ⟨_, rfl⟩
  have hv : acheckR R n x = if c ≠ 0 then c else if (inR R n x).any (avBad R) then 8 else 0 := by unfold acheckR; rw [hc]
  have hc9 : c = 0 ∨ c = 8 := by rw [← hc]; exact checkR_val R n x
  rw [hc] at hCk
  have hCkH := Lib.hid hCk
  generalize inR R n x = L at *
  clear hCk hc
  by_cases hc0 : c = 0
  · have dc : ((c : Int) != 0) = false := by rw [hc0]; rfl
    rw [if_neg (by simp [hc0])] at hv
    have hvH := Lib.hid hv
    clear hv hc0 hc9 h hsh
    go_enter Tryz.func17, Tryz.ntmps17
    go_wp2_with fail
    refine hCkH.out.mono ?_
    rintro e w1 ⟨rfl, hb1⟩
    have hb1H := Lib.hid hb1
    clear hb1 hCkH
    go_wp2_with fail
    refine (hLi.out _ hb1H.out).mono ?_
    rintro e w2 ⟨v, rfl, hro, hb2⟩
    obtain ⟨A2, c2, rfl⟩ := ownsRow_form hro
    have hb2H := Lib.hid (hb1H.out.trans (hb2.mono hb1H.out.size))
    have hcl : Hid (∀ i (hi : i < L.length), ∃ g, A2 = some ⟨g, 0, none⟩ ∧ ∀ W, Below w2.heap.size w2 W → W.cell? ⟨g, i, none⟩ = some (.int .u64 (L[i] : Nat))) := Lib.hid (fun i hi => by
      obtain ⟨g, cap, hv⟩ := row_pos hro (by omega)
      cases hv
      refine ⟨g, rfl, fun W hb => ?_⟩
      have h1 := hro.cells (g := g) rfl i (.int .u64 (L[i] : Nat)) (by rw [hsV, List.getElem?_map, List.getElem?_eq_getElem hi]; rfl)
      rw [show (⟨g, 0, none⟩ : Addr).add i = ⟨g, i, none⟩ by unfold Addr.add; split <;> simp_all] at h1
      exact (hb.cell (p := ⟨g, i, none⟩) (cell_lt h1)).trans h1)
    clear hro hb2 hLi hb1H
    go_wp2_with fail
    go_loopw [21] (fun iv wr => ∃ k : Nat, k ≤ L.length ∧ iv = .int .i64 k ∧ Hid (Below w2.heap.size w2 wr) ∧ Hid ((L.take k).any (avBad R) = false)) (fun iv _ => L.length - (intOf iv).toNat)
    case atStart => exact ⟨0, by omega, rfl, Lib.hid (Below.refl _ _), Lib.hid (by simp)⟩
    case round =>
      obtain ⟨k, hk, rfl, hbr, hpre⟩ := hrel
      by_cases hlt : k < L.length
      · obtain ⟨g, hA, hg⟩ := hcl.out k hlt
        subst hA
        have hc0 := hg wr hbr.out
        have hylt := hLlt.out L[k] (List.getElem_mem hlt)
        have hnx : Hid ((L.take (k + 1)).any (avBad R) = avBad R L[k]) := Lib.hid (by rw [List.take_succ_eq_append_getElem hlt, List.any_append, hpre.out]; simp)
        have hall : Hid (avBad R L[k] = true → L.any (avBad R) = true) := Lib.hid (fun hb => List.any_eq_true.2 ⟨_, List.getElem_mem hlt, hb⟩)
        obtain ⟨y, hy⟩ : ∃ y, L[k] = y := ⟨_, rfl⟩
        rw [hy] at hc0 hylt hnx hall
        have hbwr := Lib.hid (hb2H.out.trans (hbr.out.mono hb2H.out.size))
        obtain ⟨t, ht⟩ : ∃ t, nodeG R y = t := ⟨_, rfl⟩
        have hg3 := hGt.out wr hbwr.out y hylt
        have hokt := hokG.out y
        have hbd1 : avBad1 R y = (((t.mark : Nat) : Int) != ((toU (wrap64 (max (avH R t.left) (avH R t.right) + 1)) : Nat) : Int)) := by unfold avBad1; rw [ht]
        have hbd2 : avBad2 R y = decide (wrap64 (avH R t.right + 1) < avH R t.left) := by unfold avBad2; rw [ht]
        have hbd3 : avBad3 R y = decide (wrap64 (avH R t.left + 1) < avH R t.right) := by unfold avBad3; rw [ht]
        have hbd : avBad R y = (avBad1 R y || avBad2 R y || avBad3 R y) := rfl
        rw [hbd1, hbd2, hbd3] at hbd
        rw [← wrapU] at hbd
        rw [ht] at hg3 hokt
        have hg3H := Lib.hid hg3
        have hoktH := Lib.hid hokt
        have hbdH := Lib.hid hbd
        clear hg3 hokt ht hy hbd hbd1 hbd2 hbd3 hg hcl
        go_wp2_with fail
        refine hg3H.out.mono ?_
        rintro e w3 ⟨rfl, hb3⟩
        have hb3H := Lib.hid (hbwr.out.trans (hb3.mono hbwr.out.size))
        have hbr3 := Lib.hid (hbr.out.trans (hb3.mono hbr.out.size))
        have hz3 := hbr3.out.size
        have hz4 := hb3H.out.size
        clear hb3 hg3H hc0
        go_wp2_with fail
        obtain ⟨W3, hW⟩ : ∃ W, W = w3.alloc (Obj.cells #[.int .u64 (t.key : Nat), .int .u64 (t.val : Nat), .int .u64 (t.left : Nat), .int .u64 (t.right : Nat), .int .u64 (t.mark : Nat), .int .u64 (t.size : Nat), .int .u64 (y : Nat)] 85) := ⟨_, rfl⟩
        obtain ⟨b3, hb⟩ : ∃ b, b = w3.heap.size := ⟨_, rfl⟩
        have hX3 : Hid (Box W3 b3 85 [.int .u64 (t.key : Nat), .int .u64 (t.val : Nat), .int .u64 (t.left : Nat), .int .u64 (t.right : Nat), .int .u64 (t.mark : Nat), .int .u64 (t.size : Nat), .int .u64 (y : Nat)]) := Lib.hid (by rw [hW, hb]; exact Box.new w3 85 [.int .u64 (t.key : Nat), .int .u64 (t.val : Nat), .int .u64 (t.left : Nat), .int .u64 (t.right : Nat), .int .u64 (t.mark : Nat), .int .u64 (t.size : Nat), .int .u64 (y : Nat)])
        have hBW3 : Hid (Below w.heap.size w W3) := Lib.hid (by rw [hW]; exact hb3H.out.alloc hz4 _)
        have hBr3 : Hid (Below w2.heap.size w2 W3) := Lib.hid (by rw [hW]; exact hbr3.out.alloc hz3 _)
        rw [← hW, ← hb]
        clear hW hb hz3 hz4 hb3H hbr3
        have c2 := fun X : Bel W3 => X.cell (hX3.out.at' (i := 2) rfl)
        have c3 := fun X : Bel W3 => X.cell (hX3.out.at' (i := 3) rfl)
        refine wp_region_row (fun w' => ∃ X : Bel W3, w' = X.W) [0, 1, 2, 3, 5, 6, 7, 8] [4, 9, 10, 11] hmo (by kernel_rfl) rfl (by kernel_rfl) (Bel.start _) (fun _ _ d _ _ h => by cases d <;> exact h) ?_
        refine wpReads_step _ _ rfl rfl (by rintro _ ⟨X, rfl⟩; go_simp; exact rfl) ?_
        go_simp
        refine wpReads_step _ _ rfl rfl (by rintro _ ⟨X, rfl⟩; go_simp; exact rfl) ?_
        go_simp
        refine wpReads_step _ _ rfl rfl (by rintro _ ⟨X, rfl⟩; go_simp; exact rfl) ?_
        go_simp
        refine wpReads_step _ _ rfl rfl (by rintro _ ⟨X, rfl⟩; go_simp; exact rfl) ?_
        go_simp
        refine wpReads_step _ _ rfl rfl (by rintro _ ⟨X, rfl⟩; go_simp; exact rfl) ?_
        go_simp
        refine wpReads_step _ _ rfl rfl (by rintro _ ⟨X, rfl⟩; go_simp; exact rfl) ?_
        go_simp
        refine wpReads_step _ _ rfl rfl (by rintro _ ⟨X, rfl⟩; go_simp; exact rfl) ?_
        go_simp
        refine wpReads_step _ _ rfl rfl (by rintro _ ⟨X, rfl⟩; go_simp; exact rfl) ?_
        go_simp
        refine wpReads_nil ?_
        clear c2 c3
        have hbd4 : Hid (Below w.heap.size w W3.drew) := Lib.hid (hBW3.out.trans ((below_drawn W3).mono hBW3.out.size))
        refine wpActs_step _ rfl (fun K1 hK1 => ?_)
        go_wp2_with fail
        refine (hHt.out _ hbd4.out t.left hoktH.out.left).mono ?_
        rintro e w4 ⟨rfl, hb4⟩
        have hb4H := Lib.hid (hbd4.out.trans (hb4.mono hbd4.out.size))
        have hk4 : Hid (Below W3.heap.size W3 w4) := Lib.hid ((below_drawn W3).trans hb4)
        clear hb4
        go_wp2
        refine hK1 _ _ ⟨⟨w4, hk4.out⟩, rfl⟩ ?_
        clear hK1 K1
        refine wpActs_step _ rfl (fun K2 hK2 => ?_)
        go_wp2_with fail
        refine (hHt.out _ hb4H.out t.right hoktH.out.right).mono ?_
        rintro e w5 ⟨rfl, hb5⟩
        have hk5 : Hid (Below W3.heap.size W3 w5) := Lib.hid (hk4.out.trans (hb5.mono hk4.out.size))
        clear hb5
        go_wp2
        refine hK2 _ _ ⟨⟨w5, hk5.out⟩, rfl⟩ ?_
        clear hK2 K2
        refine wpActs_step _ rfl (fun K3 hK3 => ?_)
        go_wp2
        refine hK3 _ _ ⟨⟨w5, hk5.out⟩, rfl⟩ ?_
        clear hK3 K3
        refine wpActs_step _ rfl (fun K4 hK4 => ?_)
        go_wp2
        refine hK4 _ _ ⟨⟨w5, hk5.out⟩, rfl⟩ ?_
        clear hK4 K4
        refine wpActs_nil ?_
        have c4 := (hX3.out.below hk5.out).at' (i := 4) rfl
        have hBr5 := Lib.hid (hBr3.out.trans (hk5.out.mono hBr3.out.size))
        have hB5 := Lib.hid (hb2H.out.trans (hBr5.out.mono hb2H.out.size))
        clear hX3 hk4 hk5 hb4H hbd4
        cases m1 : (((t.mark : Nat) : Int) != IntKind.u64.wrap (wrap64 (max (avH R t.left) (avH R t.right) + 1))) with
        | true =>
          have hb9 := hbdH.out
          rw [m1] at hb9
          have hfin := Lib.hid (hall.out hb9)
          clear hb9
          go_wp2
          go_ret
          rw [hvH.out, if_pos hfin.out]
          exact ⟨rfl, hB5.out⟩
        | false =>
          cases m2 : decide (wrap64 (avH R t.right + 1) < avH R t.left) with
          | true =>
            have hb9 := hbdH.out
            rw [m1, m2] at hb9
            have hfin := Lib.hid (hall.out hb9)
            clear hb9
            go_wp2
            go_ret
            rw [hvH.out, if_pos hfin.out]
            exact ⟨rfl, hB5.out⟩
          | false =>
            cases m3 : decide (wrap64 (avH R t.left + 1) < avH R t.right) with
            | true =>
              have hb9 := hbdH.out
              rw [m1, m2, m3] at hb9
              have hfin := Lib.hid (hall.out hb9)
              clear hb9
              go_wp2
              go_ret
              rw [hvH.out, if_pos hfin.out]
              exact ⟨rfl, hB5.out⟩
            | false =>
              have hb9 := hbdH.out
              rw [m1, m2, m3] at hb9
              have hfin := Lib.hid (hnx.out.trans hb9)
              clear hb9
              go_wp2
              go_roundw
              case rel => exact ⟨k + 1, by omega, by go_num, hBr5, hfin⟩
              case measure => simp [intOf]; omega
      · obtain rfl : k = L.length := by omega
        have hfin : Hid (L.any (avBad R) = false) := Lib.hid (by have := hpre.out; rw [List.take_length] at this; exact this)
        go_wp2
        go_ret
        rw [hvH.out, if_neg (by rw [hfin.out]; simp)]
        exact ⟨rfl, hb2H.out.trans (hbr.out.mono hb2H.out.size)⟩
  · have hc8 : c = 8 := by omega
    have dc : ((c : Int) != 0) = true := by rw [hc8]; rfl
    rw [if_pos hc0] at hv
    have hvH := Lib.hid hv
    clear hv hc0 hc9 hc8 h hsh
    go_enter Tryz.func17, Tryz.ntmps17
    go_wp2_with fail
    refine hCkH.out.mono ?_
    rintro e w1 ⟨rfl, hb1⟩
    have hb1H := Lib.hid hb1
    clear hb1 hCkH
    go_wp2
    go_ret
    rw [hvH.out]
    exact ⟨rfl, hb1H.out⟩
end
end Go.Proofs.YtoifdmbffaaffaaGreatDoor
/- avl.Join of trees, as a contract. -/
set_option linter.unusedVariables false
set_option linter.unusedSimpArgs false
namespace Go.Proofs.YtoifdmbffaaffaaGreatDoor
open Go.RowKit Go.Shelf
section
variable {w w' : World} {s : Nat} {F : Nat → Prop} {R : Nat → Option (List Nat)} {H : List Nat} {P q most last G : Nat}
theorem avJoined_at (h : StoreIs w s F R H P q most last G) {l r : BT} {x kx vx m : Nat} {k v : ByteArray} {a b : BT} (h0 : R 0 = none) (hl : l.At R) (hr : r.At R) (al : l.Avl) (ar : r.Avl) (hm : (BT.node x kx vx m k v a b).At R)
    (hn : (BT.node x kx vx 0 k v l r).hs.Nodup) (sz : l.size + r.size ≤ 100) :
    Calls Tryz.prog 16 #[.pointer (some ⟨s, 0, none⟩), .int .u64 (l.root : Nat), .int .u64 (x : Nat), .int .u64 (r.root : Nat)] w fun e w' => ∃ (t : BT) (R' : Nat → Option (List Nat)), e = .returned (.tuple #[.int .u64 (t.root : Nat), .int .i64 0]) ∧
      t.At R' ∧ BT.Sim (.node x kx vx 0 k v l r) t ∧ t.Avl ∧ (∀ z, z ∉ (BT.node x kx vx 0 k v l r).nodes → R' z = R z) ∧ KeepsN R R' ∧ (max l.hgt r.hgt ≤ t.hgt ∧ t.hgt ≤ max l.hgt r.hgt + 1) ∧ StoreIs w' s F R' H P q most last G ∧ Turn w F w' F := by
  obtain ⟨n, hrd, _⟩ := h.rd
  have hj := avTop_at h l.root x r.root (BT.root_lt hl hrd) (hrd.u64 hm.2.1).1 (BT.root_lt hr hrd)
  have hk := avTop_keeps R l.root x r.root
  obtain ⟨t, o, t3, t4, t5⟩ := avTop_bt h0 hl hr al ar hm hn sz
  generalize avTop R l.root x r.root = p at *
  obtain ⟨R', y, er⟩ := p
  simp only at hj hk o t3
  refine hj.mono fun e w' ⟨he, hS, hT⟩ => ⟨t, R', ?_, o.at', o.sim, o.avl, o.frame, hk, ⟨t4, t5⟩, hS, hT⟩
  rw [he, o.root, t3]
  rfl
theorem avGood_one {R : Nat → Option (List Nat)} {x a b m : Nat} {nd : Nd} (hx : nodeG R x = nd) (ha : avH R nd.left = (a : Nat)) (hb : avH R nd.right = (b : Nat)) (hm : nd.mark = m) (h1 : m = max a b + 1) (h2 : a ≤ b + 1) (h3 : b ≤ a + 1) (s1 : a < 1000000) (s2 : b < 1000000) : avBad R x = false := by
  have q4 : wrap64 ((b : Int) + 1) = (b : Int) + 1 := IntWalk.wrap64_in _ (by omega)
  have q5 : wrap64 ((a : Int) + 1) = (a : Int) + 1 := IntWalk.wrap64_in _ (by omega)
  have q3 : max (a : Int) (b : Int) + 1 = ((m : Nat) : Int) := by omega
  have q6 : toU (wrap64 (max (a : Int) (b : Int) + 1)) = m := by rw [q3, toU_nat _ (by omega)]
  have b1 : avBad1 R x = false := by
    unfold avBad1
    rw [hx, ha, hb, q6, hm]
    exact bne_self_eq_false _
  have b2 : avBad2 R x = false := by
    unfold avBad2
    rw [hx, ha, hb, q4]
    exact decide_eq_false (by omega)
  have b3 : avBad3 R x = false := by
    unfold avBad3
    rw [hx, ha, hb, q5]
    exact decide_eq_false (by omega)
  unfold avBad
  rw [b1, b2, b3]
  rfl
/-- a right AVL tree is told right -/
theorem avGood {R : Nat → Option (List Nat)} (h0 : R 0 = none) : ∀ (t : BT), t.At R → t.Avl → t.size < 999999 → ∀ x ∈ t.nodes, avBad R x = false
  | .nil, _, _, _, x, hx => by simp [BT.nodes] at hx
  | .node y kx vx m k v l r, ht, ha, hs, x, hx => by
    have hl := ht.2.2.2.2.2.2.1
    have hr := ht.2.2.2.2.2.2.2
    obtain ⟨a1, a2, a3, al, ar⟩ := ha
    simp only [BT.size] at hs
    simp only [BT.nodes, List.mem_append, List.mem_cons] at hx
    have l1 := BT.hgt_le l
    have l2 := BT.hgt_le r
    rcases hx with hx | hx | hx
    · exact avGood h0 l hl al (by omega) x hx
    · subst hx
      exact avGood_one (nodeR_at ht.2.1).2 (BT.avH_at hl h0 al.mk (by omega)) (BT.avH_at hr h0 ar.mk (by omega)) rfl a1 a2 a3 (by omega) (by omega)
    · exact avGood h0 r hr ar (by omega) x hx
theorem tavCheck_at {N n : Nat} {t : BT} {l : List Pr} (h : TreeR N w s R n t l) (ha : t.Avl) : Calls Tryz.prog 17 #[.pointer (some ⟨s, 0, none⟩), .int .u64 (t.root : Nat)] w fun e w' => e = .returned (.int .i64 0) ∧ Below w.heap.size w w' := by
  have h1 := h.rd.le
  have h2 := h.sz
  have hf := avCheck_at h.rd h.sh t.root h.root_lt
  have hz : acheckR R n t.root = 0 := by
    unfold acheckR
    rw [BT.check_at h.at' (by rw [h.prs]; exact h.ris) h.nod (n := n) (by omega) (by omega), BT.inR_at h.at' (n := n) (by omega)]
    rw [if_neg (by simp), if_neg]
    rw [List.any_eq_true]
    rintro ⟨x, hx, hb⟩
    rw [avGood h.z t h.at' ha (by omega) x hx] at hb
    cases hb
  rw [hz] at hf
  exact hf
theorem tavHeight_at {N n : Nat} {t : BT} (h : Rd N w s R n) (h0 : R 0 = none) (ht : t.At R) (ha : t.Avl) (hs : t.size < 999999) : Calls Tryz.prog 18 #[.pointer (some ⟨s, 0, none⟩), .int .u64 (t.root : Nat)] w fun e w' => e = .returned (.int .i64 (t.hgt : Nat)) ∧ Below w.heap.size w w' := by
  have hf := avHeight_at h t.root (BT.root_lt ht h)
  rw [BT.avH_at ht h0 ha.mk (by omega)] at hf
  exact hf
end
end Go.Proofs.YtoifdmbffaaffaaGreatDoor
/- What leaf leaves. -/
set_option linter.unusedVariables false
set_option linter.unusedSimpArgs false
namespace Go.Proofs.YtoifdmbffaaffaaGreatDoor
open Go.RowKit Go.Shelf
/-- what leaf leaves: a node of a pair, without sides -/
def LeafPost (w : World) (s : Nat) (F : Nat → Prop) (R : Nat → Option (List Nat)) (H : List Nat) (P q most last G m : Nat) (p : Pr) (e : Ending) (w' : World) : Prop :=
  ∃ x kx vx F' R' H', e = .returned (.int .u64 (x : Nat)) ∧ GrowOut R R' (.node x kx vx m p.1 p.2 .nil .nil) ∧ StoreIs w' s F' R' H' (P + 9) q most last (G + 3) ∧ H'.length = H.length + 3 ∧ Turn w F w' F' ∧ x < 18446744073709551616
end Go.Proofs.YtoifdmbffaaffaaGreatDoor
/- loftlaw12.leaf: the walk. -/
set_option linter.unusedVariables false
set_option linter.unusedSimpArgs false
namespace Go.Proofs.YtoifdmbffaaffaaGreatDoor
open Go.RowKit Go.Shelf
set_option maxHeartbeats 2000000 in
set_option maxRecDepth 100000 in
theorem leaf12_at {w : World} {s : Nat} {F : Nat → Prop} {R : Nat → Option (List Nat)} {H : List Nat} {P q most last G : Nat} (h : StoreIs w s F R H P q most last G) (p : Pr) (h1 : p.1.size ≤ 1000) (h2 : p.2.size ≤ 1000)
    (hq : (P + 9) * 64 ≤ q) (hmost : H.length + 3 ≤ most) (hlast : G + 3 ≤ last) :
    Calls Tryz.prog 32 #[.pointer (some ⟨s, 0, none⟩), .agg #[.string p.1, .string p.2]] w (LeafPost w s F R H P q most last G 1 p) := by
  obtain ⟨W0, hW0⟩ : ∃ W, W = w.alloc (Obj.cells #[Value.string p.1, Value.string p.2] 47) := ⟨_, rfl⟩
  have hbx := Box.new w 47 [Value.string p.1, Value.string p.2]
  have hb0 : Below w.heap.size w W0 := by rw [hW0]; exact (Below.refl _ w).alloc (Nat.le_refl _) _
  rw [← hW0] at hbx
  have hF : ¬ F w.heap.size := fun hf => by have := h.lt hf; omega
  have hPut1 := Lib.hid (bput_at (h.below hb0) p.1 h1)
  have hw1 := words_le h1
  have hw2 := words_le h2
  have hg1 := pgsN_le (n := (Tx.wordsL p.1.data.toList).length + 2) (by omega)
  have hg2 := pgsN_le (n := (Tx.wordsL p.2.data.toList).length + 2) (by omega)
  have c0 := hbx.at' (i := 0) rfl
  have hbxH := Lib.hid hbx
  have hb0H := Lib.hid hb0
  have hW0H := Lib.hid hW0
  clear h hb0 hw1 hw2 hW0 hbx
  go_enter Tryz.func32, Tryz.ntmps32
  go_wp2_with fail
  rw [← hW0H.out]
  refine hPut1.out.mono ?_
  rintro e w1 (⟨x1, F1, n1, x10, x164, rfl, hS1, hT1⟩ | ⟨er, F1, rfl, her, hS1, hT1⟩)
  · have hPut2 := Lib.hid (bput_at hS1 p.2 h2)
    have hbx1 := Lib.hid (hbxH.out.turn hT1 hF)
    have c1 := hbx1.out.at' (i := 1) rfl
    have hF1 : ¬ F1 w.heap.size := hT1.not hbxH.out.lt hF
    have n1H := Lib.hid n1
    have hT1H := Lib.hid ((Turn.below (F := F) hb0H.out).trans hT1)
    clear hS1 hT1 n1 hPut1 c0
    go_wp2_with fail
    refine hPut2.out.mono ?_
    rintro e w2 (⟨x2, F2, n2, x20, x264, rfl, hS2, hT2⟩ | ⟨er, F2, rfl, her, hS2, hT2⟩)
    · have hMk := nmake_at hS2 ⟨x1, x2, 0, 0, 1, 1⟩ ⟨x164, x264, by simp, by simp, by simp, by simp⟩
      unfold Nd.v at hMk
      have hMkH := Lib.hid hMk
      have n2H := Lib.hid n2
      have hT2H := Lib.hid (hT1H.out.trans hT2)
      clear hS2 hT2 n2 hPut2 hMk c1
      go_wp2_with fail
      refine hMkH.out.mono ?_
      rintro e w5 (⟨x5, F5, n5, x50, x564, rfl, hS5, hT5⟩ | ⟨er, F5, rfl, her, hS5, hT5⟩)
      · have hfin : Hid (LeafPost w s F R H P q most last G 1 p (.returned (.int .u64 (x5 : Nat))) w5) := Lib.hid (by
          refine ⟨x5, x1, x2, F5, _, _, rfl, ?_, hS5.more ?_ ?_, ?_, hT2H.out.trans hT5, x564⟩
          · exact grow_plain n1H.out x10 n2H.out x20 (GrowOut.nil _) (GrowOut.nil _) n5 x50 h1 h2 1
          · have : pgsN ((Nd.ws ⟨x1, x2, 0, 0, 1, 1⟩).length + 2) = 1 := by simp [Nd.ws, pgsN]
            rw [this]
            omega
          · omega
          · simp only [List.length_cons])
        clear hS5 hT5 n5
        go_wp2
        go_ret
        exact hfin.out
      · have : pgsN ((Nd.ws ⟨x1, x2, 0, 0, 1, 1⟩).length + 2) = 1 := by simp [Nd.ws, pgsN]
        rw [this] at her
        exfalso; simp only [List.length_cons] at her; omega
    · exfalso; simp only [List.length_cons] at her; omega
  · exfalso; omega
end Go.Proofs.YtoifdmbffaaffaaGreatDoor
/- What built leaves. -/
set_option linter.unusedVariables false
set_option linter.unusedSimpArgs false
namespace Go.Proofs.YtoifdmbffaaffaaGreatDoor
open Go.RowKit Go.Shelf
/-- a tree of a kind, of pairs -/
def BuiltPost (Q : BT → Prop) (w : World) (s : Nat) (F : Nat → Prop) (R : Nat → Option (List Nat)) (H : List Nat) (P q most last G : Nat) (l : List Pr) (e : Ending) (w' : World) : Prop :=
  ∃ t F' R' H', e = .returned (.int .u64 (t.root : Nat)) ∧ t.prs = l ∧ Q t ∧ GrowOut R R' t ∧ StoreIs w' s F' R' H' (P + 9 * l.length) q most last (G + 3 * l.length) ∧ H'.length = H.length + 3 * l.length ∧ Turn w F w' F'
end Go.Proofs.YtoifdmbffaaffaaGreatDoor
/- loftlaw12.built: the walk. -/
set_option linter.unusedVariables false
set_option linter.unusedSimpArgs false
namespace Go.Proofs.YtoifdmbffaaffaaGreatDoor
open Go.RowKit Go.Shelf
set_option maxHeartbeats 4000000 in
set_option maxRecDepth 100000 in
theorem built12_at {w : World} {s : Nat} {F : Nat → Prop} {R : Nat → Option (List Nat)} {H : List Nat} {P q most last G c : Nat} {A : Option Addr} {l : List Pr} (h : StoreIs w s F R H P q most last G) (z : R 0 = none) (hc : CellsF w F A (prsV l)) (hlen : l.length ≤ 60) (hs : ∀ p ∈ l, p.1.size ≤ 1000 ∧ p.2.size ≤ 1000)
    (hq : (P + 9 * l.length) * 64 ≤ q) (hmost : H.length + 3 * l.length ≤ most) (hlast : G + 3 * l.length ≤ last) (back : Bool) :
    Calls Tryz.prog 22 #[.pointer (some ⟨s, 0, none⟩), .slice A l.length c, .bool back] w (BuiltPost BT.Avl w s F R H P q most last G l) := by
  have hS := Lib.hid h
  have h0 := Lib.hid z
  have hA := Lib.hid hc
  have hsz := Lib.hid hs
  clear h z hc hs
  cases back with
  | false =>
    go_enter Tryz.func22, Tryz.ntmps22
    go_wp2_with fail
    go_loopw [7, 8] (fun rv iv wr => ∃ (k : Nat) (t : BT) (F' : Nat → Prop) (R' : Nat → Option (List Nat)) (H' : List Nat), k ≤ l.length ∧ iv = .int .i64 k ∧ rv = .int .u64 (t.root : Nat) ∧ Hid (t.prs = l.take k) ∧ Hid (t.Avl) ∧ Hid (GrowOut R R' t) ∧ Hid (StoreIs wr s F' R' H' (P + 9 * k) q most last (G + 3 * k)) ∧ Hid (H'.length = H.length + 3 * k) ∧ Hid (Turn w F wr F')) (fun _ iv _ => l.length - (intOf iv).toNat)
    case atStart => exact ⟨0, .nil, F, R, H, by omega, rfl, rfl, Lib.hid (by simp [BT.prs]), Lib.hid trivial, Lib.hid (GrowOut.nil R), Lib.hid (by simpa using hS.out), Lib.hid (by simp), Lib.hid (Turn.refl _ _)⟩
    case round =>
      obtain ⟨k, t, F', R', H', hk, rfl, rfl, hpr, hav, hgo, hS', hH', hT'⟩ := hrel
      by_cases hlt : k < l.length
      · obtain ⟨nr, hrd, _⟩ := hS'.out.rd
        have hrt := BT.root_lt hgo.out.at' hrd
        have hcf := hA.out.turn hT'.out
        obtain ⟨bb, oo, hAs, q1, q2⟩ := hcf.pairs hlt
        have hsz := hsz.out _ (List.getElem_mem hlt)
        obtain ⟨p, hp⟩ : ∃ p, l[k] = p := ⟨_, rfl⟩
        have hpk := Lib.hid hp
        rw [hp] at q1 q2 hsz
        have hHl := hH'.out
        have hLf := leaf12_at hS'.out p hsz.1 hsz.2 (by omega) (by omega) (by omega)
        have hLfH := Lib.hid hLf
        have hts : t.size = k := by rw [← BT.prs_len, hpr.out, List.length_take]; omega
        have htsH := Lib.hid hts
        subst hAs
        clear hrd hcf hp hHl hLf hts
        go_wp2_with fail
        refine hLfH.out.mono ?_
        rintro e w2 ⟨x, kx, vx, F2, R2, H2, rfl, gm, hS2, hH2, hT2, hx64⟩
        have h02 : R2 0 = none := gm.zero (hgo.out.zero h0.out)
        obtain ⟨g1, g2, g3, _, _⟩ := grow_three (m0 := 0) (hgo.out : GrowOut R R' t) (GrowOut.nil _ : GrowOut R' R' .nil) gm
        have hJ := avJoined_at hS2 h02 g1 g2 hav.out trivial gm.at' g3 (by have := htsH.out; show _ ≤ _; simp only [BT.size]; omega)
        have hJH := Lib.hid hJ
        have gmH := Lib.hid gm
        have hH2H := Lib.hid hH2
        have hT2H := Lib.hid (hT'.out.trans hT2)
        clear gm hS2 hT2 hH2 g1 g2 g3 h02 hJ hLfH q1 q2
        go_wp2_with fail
        refine hJH.out.mono ?_
        rintro e w3 ⟨t', R3, rfl, at', sim, ok, frame, _, _, hS3, hT3⟩
        have hprs : t'.prs = l.take (k + 1) := by rw [sim.prs, List.take_succ_eq_append_getElem hlt, ← hpr.out, hpk.out]; rfl
        have hgo3 : GrowOut R R3 t' := GrowOut.joined (m0 := 0) (hgo.out : GrowOut R R' t) (GrowOut.nil _ : GrowOut R' R' .nil) gmH.out at' sim frame
        have hprsH := Lib.hid hprs
        have hgo3H := Lib.hid hgo3
        have hokH := Lib.hid ok
        have hS3H : Hid (StoreIs w3 s F2 R3 H2 (P + 9 * (k + 1)) q most last (G + 3 * (k + 1))) := Lib.hid (hS3.more (by omega) (by omega))
        have hH3H : Hid (H2.length = H.length + 3 * (k + 1)) := Lib.hid (by rw [hH2H.out, hH'.out]; omega)
        have hT3H := Lib.hid (hT2H.out.trans hT3)
        clear hprs hgo3 ok hS3 hT3 at' sim frame hJH hH2H
        go_wp2
        go_roundw
        case rel => exact ⟨k + 1, t', F2, R3, H2, by omega, by go_num, rfl, hprsH, hokH, hgo3H, hS3H, hH3H, hT3H⟩
        case measure => simp [intOf]; omega
      · obtain rfl : k = l.length := by omega
        have hfin : Hid (BuiltPost BT.Avl w s F R H P q most last G l (.returned (.int .u64 (t.root : Nat))) wr) := Lib.hid ⟨t, F', R', H', rfl, by rw [hpr.out, List.take_length], hav.out, hgo.out, hS'.out, hH'.out, hT'.out⟩
        clear hpr hav hgo hS' hH' hT'
        go_wp2
        go_ret
        exact hfin.out
  | true =>
    go_enter Tryz.func22, Tryz.ntmps22
    go_wp2_with fail
    go_loopw [7, 8] (fun rv iv wr => ∃ (k : Nat) (t : BT) (F' : Nat → Prop) (R' : Nat → Option (List Nat)) (H' : List Nat), k ≤ l.length ∧ iv = .int .i64 k ∧ rv = .int .u64 (t.root : Nat) ∧ Hid (t.prs = l.drop (l.length - k)) ∧ Hid (t.Avl) ∧ Hid (GrowOut R R' t) ∧ Hid (StoreIs wr s F' R' H' (P + 9 * k) q most last (G + 3 * k)) ∧ Hid (H'.length = H.length + 3 * k) ∧ Hid (Turn w F wr F')) (fun _ iv _ => l.length - (intOf iv).toNat)
    case atStart => exact ⟨0, .nil, F, R, H, by omega, rfl, rfl, Lib.hid (by simp [BT.prs]), Lib.hid trivial, Lib.hid (GrowOut.nil R), Lib.hid (by simpa using hS.out), Lib.hid (by simp), Lib.hid (Turn.refl _ _)⟩
    case round =>
      obtain ⟨k, t, F', R', H', hk, rfl, rfl, hpr, hav, hgo, hS', hH', hT'⟩ := hrel
      by_cases hlt : k < l.length
      · obtain ⟨nr, hrd, _⟩ := hS'.out.rd
        have hrt := BT.root_lt hgo.out.at' hrd
        have hcf := hA.out.turn hT'.out
        have hlt2 : l.length - 1 - k < l.length := by omega
        obtain ⟨bb, oo, hAs, q1, q2⟩ := hcf.pairs hlt2
        have hsz := hsz.out _ (List.getElem_mem hlt2)
        obtain ⟨p, hp⟩ : ∃ p, l[l.length - 1 - k] = p := ⟨_, rfl⟩
        have hpk := Lib.hid hp
        rw [hp] at q1 q2 hsz
        have hHl := hH'.out
        have hLf := leaf12_at hS'.out p hsz.1 hsz.2 (by omega) (by omega) (by omega)
        have hLfH := Lib.hid hLf
        have hts : t.size = k := by rw [← BT.prs_len, hpr.out, List.length_drop]; omega
        have htsH := Lib.hid hts
        subst hAs
        clear hrd hcf hp hHl hLf hts
        go_wp2_with fail
        refine hLfH.out.mono ?_
        rintro e w2 ⟨x, kx, vx, F2, R2, H2, rfl, gm, hS2, hH2, hT2, hx64⟩
        have h02 : R2 0 = none := gm.zero (hgo.out.zero h0.out)
        obtain ⟨g1, g2, g3, _, _⟩ := grow_three (m0 := 0) (GrowOut.nil _ : GrowOut R R .nil) (hgo.out : GrowOut R R' t) gm
        have hJ := avJoined_at hS2 h02 g1 g2 trivial hav.out gm.at' g3 (by have := htsH.out; show _ ≤ _; simp only [BT.size]; omega)
        have hJH := Lib.hid hJ
        have gmH := Lib.hid gm
        have hH2H := Lib.hid hH2
        have hT2H := Lib.hid (hT'.out.trans hT2)
        clear gm hS2 hT2 hH2 g1 g2 g3 h02 hJ hLfH q1 q2
        go_wp2_with fail
        refine hJH.out.mono ?_
        rintro e w3 ⟨t', R3, rfl, at', sim, ok, frame, _, _, hS3, hT3⟩
        have hprs : t'.prs = l.drop (l.length - (k + 1)) := by
            rw [sim.prs, show l.length - (k + 1) = l.length - 1 - k by omega, List.drop_eq_getElem_cons hlt2, show l.length - 1 - k + 1 = l.length - k by omega, ← hpr.out, hpk.out]; rfl
        have hgo3 : GrowOut R R3 t' := GrowOut.joined (m0 := 0) (GrowOut.nil _ : GrowOut R R .nil) (hgo.out : GrowOut R R' t) gmH.out at' sim frame
        have hprsH := Lib.hid hprs
        have hgo3H := Lib.hid hgo3
        have hokH := Lib.hid ok
        have hS3H : Hid (StoreIs w3 s F2 R3 H2 (P + 9 * (k + 1)) q most last (G + 3 * (k + 1))) := Lib.hid (hS3.more (by omega) (by omega))
        have hH3H : Hid (H2.length = H.length + 3 * (k + 1)) := Lib.hid (by rw [hH2H.out, hH'.out]; omega)
        have hT3H := Lib.hid (hT2H.out.trans hT3)
        clear hprs hgo3 ok hS3 hT3 at' sim frame hJH hH2H
        go_wp2
        go_roundw
        case rel => exact ⟨k + 1, t', F2, R3, H2, by omega, by go_num, rfl, hprsH, hokH, hgo3H, hS3H, hH3H, hT3H⟩
        case measure => simp [intOf]; omega
      · obtain rfl : k = l.length := by omega
        have hfin : Hid (BuiltPost BT.Avl w s F R H P q most last G l (.returned (.int .u64 (t.root : Nat))) wr) := Lib.hid ⟨t, F', R', H', rfl, by rw [hpr.out, Nat.sub_self, List.drop_zero], hav.out, hgo.out, hS'.out, hH'.out, hT'.out⟩
        clear hpr hav hgo hS' hH' hT'
        go_wp2
        go_ret
        exact hfin.out
end Go.Proofs.YtoifdmbffaaffaaGreatDoor
/- How many nodes trees of a height have: plain law. -/
set_option linter.unusedVariables false
set_option linter.unusedSimpArgs false
namespace Go.Proofs.YtoifdmbffaaffaaGreatDoor
open Go.RowKit Go.Shelf
def fibL : Nat → Nat × Nat
  | 0 => (0, 1)
  | n + 1 => ((fibL n).2, (fibL n).1 + (fibL n).2 + 1)
/-- how many nodes an AVL tree of a height has at least -/
def leastN (n : Nat) : Nat := (fibL n).1
theorem leastN_two (n : Nat) : leastN (n + 2) = leastN n + leastN (n + 1) + 1 := rfl
theorem leastN_step : ∀ n, leastN n ≤ leastN (n + 1)
  | 0 => by decide
  | n + 1 => by rw [leastN_two]; omega
theorem leastN_mono {a b : Nat} (h : a ≤ b) : leastN a ≤ leastN b := by
  induction h with
  | refl => exact Nat.le_refl _
  | step _ ih => exact Nat.le_trans ih (leastN_step _)
namespace BT
theorem Avl.least : ∀ {t : BT}, t.Avl → leastN t.hgt ≤ t.size
  | nil, _ => Nat.le_refl _
  | node x kx vx m k v l r, ⟨h1, h2, h3, h4, h5⟩ => by
    have e1 := Avl.least h4
    have e2 := Avl.least h5
    simp only [hgt, size]
    rcases Nat.le_total l.hgt r.hgt with h | h
    · rw [Nat.max_eq_right h]
      by_cases h0 : r.hgt = 0
      · rw [h0]; have : leastN (0 + 1) = 1 := rfl; omega
      · obtain ⟨j, hj⟩ : ∃ j, r.hgt = j + 1 := ⟨r.hgt - 1, by omega⟩
        have := leastN_mono (show j ≤ l.hgt by omega)
        rw [hj] at e2 ⊢
        rw [leastN_two]
        omega
    · rw [Nat.max_eq_left h]
      by_cases h0 : l.hgt = 0
      · rw [h0]; have : leastN (0 + 1) = 1 := rfl; omega
      · obtain ⟨j, hj⟩ : ∃ j, l.hgt = j + 1 := ⟨l.hgt - 1, by omega⟩
        have := leastN_mono (show j ≤ r.hgt by omega)
        rw [hj] at e1 ⊢
        rw [leastN_two]
        omega
theorem size_pow : ∀ t : BT, t.size + 1 ≤ 2 ^ t.hgt
  | nil => Nat.le_refl _
  | node x kx vx m k v l r => by
    have e1 := size_pow l
    have e2 := size_pow r
    have m1 := Nat.pow_le_pow_right (show 0 < 2 by omega) (Nat.le_max_left l.hgt r.hgt)
    have m2 := Nat.pow_le_pow_right (show 0 < 2 by omega) (Nat.le_max_right l.hgt r.hgt)
    simp only [hgt, size]
    rw [Nat.pow_succ]
    omega
end BT
end Go.Proofs.YtoifdmbffaaffaaGreatDoor
/- loftlaw12.awake. -/
set_option linter.unusedVariables false
set_option linter.unusedSimpArgs false
namespace Go.Proofs.YtoifdmbffaaffaaGreatDoor
open Go.RowKit Go.Shelf
def prA : Pr := (⟨#[97]⟩, ⟨#[]⟩)
def prB : Pr := (⟨#[98]⟩, ⟨#[]⟩)
theorem prAB_rise : Rising [prA, prB] := by unfold Rising; decide +kernel
theorem BT.sim_root {x kx vx m : Nat} {k v : ByteArray} {t : BT} (h : BT.Sim (.node x kx vx m k v .nil .nil) t) : t.root = x := by
  have hn : t.nodes = [x] := h.nodes
  rcases BT.root_nodes t with h0 | h0
  · cases t with
    | nil => cases hn
    | node y ky vy my k' v' l r =>
      have : y ∈ (BT.node y ky vy my k' v' l r).nodes := by simp [BT.nodes]
      rw [hn] at this
      exact List.mem_singleton.1 this
  · rw [hn] at h0
    simpa using h0
set_option maxHeartbeats 4000000 in
set_option maxRecDepth 100000 in
theorem awake12_at {w : World} (hT : Tab w) : Calls Tryz.prog 19 #[] w fun e w' => e = .returned (.bool true) ∧ Below w.heap.size w w' := by
  have hN := Lib.hid (snew_at hT 262144 1000 4294967295 (by omega) (by omega) (by omega) (by omega) (by omega))
  clear hT
  go_enter Tryz.func19, Tryz.ntmps19
  go_wp2_with fail
  refine hN.out.mono ?_
  rintro e w1 ⟨s, F, rfl, hS, hs1, hF1, hb1⟩
  have hb1H := Lib.hid hb1
  have hF1H := Lib.hid hF1
  have hLf := leaf12_at hS prA (by decide) (by decide) (by omega) (by simp) (by omega)
  unfold prA at hLf
  have hLfH := Lib.hid hLf
  clear hb1 hF1 hS hLf hN
  go_wp2_with fail
  refine hLfH.out.mono ?_
  rintro e w2 ⟨x, kx, vx, F2, R2, H2, rfl, gm, hS2, hH2, hT2, hx64⟩
  have h02 : R2 0 = none := gm.zero rfl
  obtain ⟨g1, g2, g3, _, _⟩ := grow_three (m0 := 0) (GrowOut.nil _) (GrowOut.nil _) gm
  have hJ := avJoined_at hS2 h02 g1 g2 trivial trivial gm.at' g3 (by simp [BT.size])
  rw [show ((BT.root .nil : Nat) : Int) = 0 from rfl] at hJ
  have hJH := Lib.hid hJ
  have gmH := Lib.hid gm
  have hH2H := Lib.hid hH2
  have hT2H := Lib.hid hT2
  clear gm hS2 hT2 hH2 g1 g2 g3 h02 hJ hLfH
  go_wp2_with fail
  refine hJH.out.mono ?_
  rintro e w3 ⟨t1, R3, rfl, at1, sim1, ok1, fr1, _, hgt1, hS3, hT3⟩
  have go1 : GrowOut _ R3 t1 := GrowOut.joined (m0 := 0) (GrowOut.nil _) (GrowOut.nil _) gmH.out at1 sim1 fr1
  have hrt := BT.sim_root sim1
  have hLf := leaf12_at hS3 prB (by decide) (by decide) (by omega) (by rw [hH2H.out]; simp) (by omega)
  unfold prB at hLf
  have hLfH := Lib.hid hLf
  have go1H := Lib.hid go1
  have ok1H := Lib.hid ok1
  have hgt1H := Lib.hid hgt1
  have sim1H := Lib.hid sim1
  have hT3H := Lib.hid (hT2H.out.trans hT3)
  rw [hrt]
  have hrtH := Lib.hid hrt
  clear at1 sim1 ok1 fr1 hgt1 hS3 hT3 go1 hLf hJH hrt
  go_wp2_with fail
  refine hLfH.out.mono ?_
  rintro e w4 ⟨y, ky, vy, F4, R4, H4, rfl, gn, hS4, hH4, hT4, hy64⟩
  have h04 : R4 0 = none := gn.zero (go1H.out.zero rfl)
  obtain ⟨g1, g2, g3, _, _⟩ := grow_three (m0 := 0) go1H.out (GrowOut.nil _) gn
  have sz1 : t1.size = 1 := by have := sim1H.out.size; rw [this]; rfl
  have hJ := avJoined_at hS4 h04 g1 g2 ok1H.out trivial gn.at' g3 (by rw [sz1]; simp [BT.size])
  rw [show ((BT.root .nil : Nat) : Int) = 0 from rfl, hrtH.out] at hJ
  have hJH := Lib.hid hJ
  have gnH := Lib.hid gn
  have hT4H := Lib.hid (hT3H.out.trans hT4)
  clear gn hS4 hT4 hH4 g1 g2 g3 h04 hJ hLfH
  go_wp2_with fail
  refine hJH.out.mono ?_
  rintro e w5 ⟨t2, R5, rfl, at2, sim2, ok2, fr2, _, hgt2, hS5, hT5⟩
  have go2 : GrowOut _ R5 t2 := GrowOut.joined (m0 := 0) go1H.out (GrowOut.nil _) gnH.out at2 sim2 fr2
  have hp1 : t1.prs = [prA] := sim1H.out.prs
  have hp2 : t2.prs = [prA, prB] := by rw [sim2.prs]; show t1.prs ++ _ = _; rw [hp1]; rfl
  have sz2 : t2.size = 2 := by rw [← BT.prs_len, hp2]; rfl
  have hh : t2.hgt = 2 := by
    have a1 := BT.size_pow t2
    have a2 := hgt1H.out.2
    have a3 := hgt2.2
    have a4 : (BT.nil).hgt = 0 := rfl
    rw [a4] at a2 a3
    have a5 : t1.hgt ≤ 1 := by omega
    have a6 : t2.hgt ≤ 2 := by omega
    rw [sz2] at a1
    have a7 : ¬ t2.hgt < 2 := fun h => by
      have : 2 ^ t2.hgt ≤ 2 ^ 1 := Nat.pow_le_pow_right (by decide) (by omega)
      omega
    omega
  have hsh : Short R5 := go2.short (fun x ws e => by cases e)
  have h05 : R5 0 = none := go2.zero rfl
  obtain ⟨n5, hTR, _⟩ := treeIn hS5 hsh h05 at2 hp2 prAB_rise go2.nodup
  have hHt := tavHeight_at hTR.rd h05 at2 ok2 (by omega)
  rw [hh] at hHt
  have hHtH := Lib.hid hHt
  have hCk := Lib.hid (fun W (hb : Below w5.heap.size w5 W) => tavCheck_at (hTR.below hb) ok2)
  have hbw : Hid (Below w.heap.size w w5) := Lib.hid (hb1H.out.trans ((hT4H.out.trans hT5).to_below hb1H.out.size hF1H.out))
  clear at2 sim2 ok2 fr2 hgt2 hS5 hT5 go2 hJH hHt hTR hp1 hp2
  go_wp2_with fail
  refine hHtH.out.mono ?_
  rintro e w6 ⟨rfl, hb6⟩
  have hb6H := Lib.hid hb6
  clear hb6
  go_wp2_with fail
  refine (hCk.out _ hb6H.out).mono ?_
  rintro e w7 ⟨rfl, hb7⟩
  have hb7H := Lib.hid (hbw.out.trans ((hb6H.out.trans (hb7.mono hb6H.out.size)).mono hbw.out.size))
  clear hb7
  go_wp2
  go_ret
  exact ⟨rfl, hb7H.out⟩
end Go.Proofs.YtoifdmbffaaffaaGreatDoor
/- loftlaw12.same: the walk. -/
set_option linter.unusedVariables false
set_option linter.unusedSimpArgs false
namespace Go.Proofs.YtoifdmbffaaffaaGreatDoor
open Go.RowKit Go.Shelf
set_option maxHeartbeats 2000000 in
set_option maxRecDepth 100000 in
theorem same12_at {w : World} {s N n c : Nat} {R : Nat → Option (List Nat)} {t : BT} {l : List Pr} {A : Option Addr} {F : Nat → Prop} (h : TreeR N w s R n t l) (hc : CellsF w F A (prsV l)) :
    Calls Tryz.prog 33 #[.pointer (some ⟨s, 0, none⟩), .int .u64 (t.root : Nat), .slice A l.length c] w fun e w' => e = .returned (.bool true) ∧ Below w.heap.size w w' := by
  have hLi := Lib.hid (tlist_at h)
  have hTR := Lib.hid h
  have hcf := Lib.hid hc
  have hle := h.le
  clear h hc
  go_enter Tryz.func33, Tryz.ntmps33
  go_wp2_with fail
  refine hLi.out.mono ?_
  rintro e w2 ⟨v, rfl, hro, hb2⟩
  obtain ⟨A2, cc, rfl⟩ := ownsRow_form hro
  have hnl := Lib.hid hTR.out.nodes_len
  have hcells : Hid (∀ i (hi : i < l.length) (hi2 : i < t.nodes.length), ∃ g, A2 = some ⟨g, 0, none⟩ ∧ ∀ W, Below w2.heap.size w2 W → W.cell? ⟨g, i, none⟩ = some (.int .u64 (t.nodes[i] : Nat))) := Lib.hid (fun i hi hi2 => by
    obtain ⟨g, cap, hv⟩ := row_pos hro (by omega)
    cases hv
    refine ⟨g, rfl, fun W hb => ?_⟩
    have h1 := hro.cells (g := g) rfl i (.int .u64 (t.nodes[i] : Nat)) (by rw [hsV, List.getElem?_map, List.getElem?_eq_getElem hi2]; rfl)
    rw [show (⟨g, 0, none⟩ : Addr).add i = ⟨g, i, none⟩ by unfold Addr.add; split <;> simp_all] at h1
    exact (hb.cell (p := ⟨g, i, none⟩) (cell_lt h1)).trans h1)
  have hTR2 := Lib.hid (hTR.out.below hb2)
  have hcf2 := Lib.hid (hcf.out.turn (Turn.below hb2))
  have hb2H := Lib.hid hb2
  clear hro hb2 hLi hcf hTR
  go_wp2_with fail
  go_loopw [8] (fun iv wr => ∃ k : Nat, k ≤ l.length ∧ iv = .int .i64 k ∧ Hid (Below w2.heap.size w2 wr)) (fun iv _ => l.length - (intOf iv).toNat)
  case atStart => exact ⟨0, by omega, rfl, Lib.hid (Below.refl _ _)⟩
  case round =>
    obtain ⟨k, hk, rfl, hb⟩ := hrel
    by_cases hlt : k < l.length
    · have hk2 : k < t.nodes.length := by rw [hnl.out]; exact hlt
      obtain ⟨g, hA2, hgc⟩ := hcells.out k hlt hk2
      have hP := fun W (hb : Below w2.heap.size w2 W) => tpair_at (hTR2.out.below hb) hlt hk2
      have hq := fun W (hb : Below w2.heap.size w2 W) => (hcf2.out.turn (Turn.below hb)).pairs hlt
      obtain ⟨x, hx⟩ : ∃ x, t.nodes[k] = x := ⟨_, rfl⟩
      obtain ⟨p, hp⟩ : ∃ p, l[k] = p := ⟨_, rfl⟩
      simp only [hx, hp] at hP hq hgc
      have hPH := Lib.hid hP
      have hqH := Lib.hid hq
      obtain ⟨b, o, hBs, _, _⟩ := hq wr hb.out
      have hc0 := hgc wr hb.out
      subst hA2 hBs
      clear hP hq hgc hx hp
      go_wp2_with fail
      refine (hPH.out wr hb.out).mono ?_
      rintro e w10 ⟨rfl, hb3⟩
      have hb3H := Lib.hid (hb.out.trans (hb3.mono hb.out.size))
      have hz3 := hb3H.out.size
      have hb4H := Lib.hid (hb3H.out.alloc hz3 (Obj.cells #[Value.string p.1, Value.string p.2] 47))
      have r3 : (w10.alloc (Obj.cells #[Value.string p.1, Value.string p.2] 47)).cell? ⟨w10.heap.size, 0, none⟩ = some (.string p.1) := by go_simp
      have r4 : (w10.alloc (Obj.cells #[Value.string p.1, Value.string p.2] 47)).cell? ⟨w10.heap.size, 1, none⟩ = some (.string p.2) := by go_simp
      obtain ⟨b', o', hBs, q3, q4⟩ := hqH.out _ hb4H.out
      cases hBs
      clear hb3 hc0
      go_wp2
      go_quiet (fail)
      go_wp2
      go_roundw
      case rel => exact ⟨k + 1, by omega, by go_num, Lib.hid (hb4H.out.trans ((Tx.drewN_below _ _).mono hb4H.out.size))⟩
      case measure => simp [intOf]; omega
    · obtain rfl : k = l.length := by omega
      go_wp2
      go_ret
      exact ⟨rfl, hb2H.out.trans (hb.out.mono hb2H.out.size)⟩
end Go.Proofs.YtoifdmbffaaffaaGreatDoor
/- loftref12: Least, Highest. -/
set_option linter.unusedVariables false
set_option linter.unusedSimpArgs false
namespace Go.Proofs.YtoifdmbffaaffaaGreatDoor
open Go.RowKit Go.Shelf
theorem fibL_le : ∀ n, (fibL n).1 + 1 ≤ 2 ^ n ∧ (fibL n).2 + 1 ≤ 2 ^ (n + 1)
  | 0 => by decide
  | n + 1 => by
    obtain ⟨h1, h2⟩ := fibL_le n
    refine ⟨h2, ?_⟩
    show (fibL n).1 + (fibL n).2 + 1 + 1 ≤ 2 ^ (n + 1 + 1)
    have e1 : 2 ^ (n + 1) = 2 ^ n * 2 := Nat.pow_succ 2 n
    have e2 : 2 ^ (n + 1 + 1) = 2 ^ (n + 1) * 2 := Nat.pow_succ 2 (n + 1)
    omega
theorem fibL_small {n : Nat} (h : n ≤ 20) : (fibL n).1 < 4194304 ∧ (fibL n).2 < 4194304 := by
  obtain ⟨h1, h2⟩ := fibL_le n
  have e1 : 2 ^ n ≤ 2 ^ 21 := Nat.pow_le_pow_right (by decide) (by omega)
  have e2 : 2 ^ (n + 1) ≤ 2 ^ 21 := Nat.pow_le_pow_right (by decide) (by omega)
  have e3 : 2 ^ 21 = 2097152 := by decide
  omega
set_option maxRecDepth 100000 in
theorem least_at (n : Nat) (hn : n ≤ 20) (w : World) : Calls Tryz.prog 65 #[.int .i64 (n : Nat)] w fun e w' => e = .returned (.int .i64 (leastN n : Nat)) ∧ w = w' := by
  go_enter Tryz.func65, Tryz.ntmps65
  go_wp2_with fail
  go_loopw [3, 4, 5] (fun av bv iv wr => ∃ k : Nat, k ≤ n ∧ iv = .int .i64 k ∧ av = .int .i64 ((fibL k).1 : Nat) ∧ bv = .int .i64 ((fibL k).2 : Nat) ∧ w = wr) (fun _ _ iv _ => n - (intOf iv).toNat)
  case atStart => exact ⟨0, by omega, rfl, rfl, rfl, rfl⟩
  case round =>
    obtain ⟨k, hk, rfl, rfl, rfl, rfl⟩ := hrel
    by_cases hlt : k < n
    · have hs : (fibL (k + 1)).1 = (fibL k).2 ∧ (fibL (k + 1)).2 = (fibL k).1 + (fibL k).2 + 1 := ⟨rfl, rfl⟩
      obtain ⟨b1, b2⟩ := fibL_small (show k ≤ 20 by omega)
      have hsH := Lib.hid hs
      clear hs
      generalize (fibL k).1 = a at *
      generalize (fibL k).2 = b at *
      go_wp2
      go_roundw
      case rel => exact ⟨k + 1, by omega, by go_num, by rw [hsH.out.1], by rw [hsH.out.2]; push_cast; rfl, trivial⟩
      case measure => simp [intOf]; omega
    · obtain rfl : k = n := by omega
      go_wp2
      go_ret
      exact ⟨rfl, rfl⟩
theorem leastN_nine : leastN 9 = 88 := by decide
set_option maxRecDepth 100000 in
theorem highest_at (n : Nat) (hn : n ≤ 60) (w : World) : Calls Tryz.prog 34 #[.int .i64 (n : Nat)] w fun e w' => (∃ h : Nat, e = .returned (.int .i64 (h : Nat)) ∧ n < leastN (h + 1) ∧ h ≤ 8) ∧ w = w' := by
  go_enter Tryz.func34, Tryz.ntmps34
  go_wp2_with fail
  go_loopw [3] (fun iv wr => ∃ k : Nat, k ≤ 8 ∧ iv = .int .i64 k ∧ w = wr) (fun iv _ => 9 - (intOf iv).toNat)
  case atStart => exact ⟨0, by omega, rfl, rfl⟩
  case round =>
    obtain ⟨k, hk, rfl, rfl⟩ := hrel
    have hL := least_at (k + 1) (by omega) w
    push_cast at hL
    have hLH := Lib.hid hL
    have hk9 : ¬ k + 1 < 9 → leastN 9 ≤ leastN (k + 1) := fun h => leastN_mono (by omega)
    rw [leastN_nine] at hk9
    have hk9H := Lib.hid hk9
    have hlt : leastN (k + 1) < 4194304 := (fibL_small (n := k + 1) (by omega)).1
    obtain ⟨z, hz⟩ : ∃ z, leastN (k + 1) = z := ⟨_, rfl⟩
    rw [hz] at hLH hk9H hlt
    have hzH := Lib.hid hz
    clear hL hk9 hz
    by_cases hle : z ≤ n
    · have d : decide ((z : Int) ≤ (n : Int)) = true := by simp; omega
      go_wp2_with fail
      refine hLH.out.mono ?_
      rintro e w1 ⟨rfl, rfl⟩
      go_wp2
      go_roundw
      case rel => exact ⟨k + 1, by have := hk9H.out; omega, by go_num, trivial⟩
      case measure => simp [intOf]; omega
    · have d : decide ((z : Int) ≤ (n : Int)) = false := by simp; omega
      go_wp2_with fail
      refine hLH.out.mono ?_
      rintro e w1 ⟨rfl, rfl⟩
      go_wp2
      go_ret
      exact ⟨⟨k, rfl, by rw [hzH.out]; omega, hk⟩, rfl⟩
end Go.Proofs.YtoifdmbffaaffaaGreatDoor

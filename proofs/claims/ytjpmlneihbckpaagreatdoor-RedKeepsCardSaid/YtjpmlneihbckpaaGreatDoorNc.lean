/-
  The seat's own texts, shared part c: RbT2, Joined, AvJ, RbT3, RbW5, RbW6, RbD, LeafP, Leaf13, BuiltP, Built13, Shr, Awk13, Same13, Least13, AvH.
-/
import Derived.Test.YtjpmlneihbckpaaGreatDoorNb
/- Red-black trees: joining, plain law. -/
set_option linter.unusedVariables false
set_option linter.unusedSimpArgs false
namespace Go.Proofs.YtjpmlneihbckpaaGreatDoor
open Go.RowKit Go.Shelf
namespace BT
section
variable {tn : Bool}
theorem bh_small {t : BT} (h : t.RB) (hs : t.size < 999990) : t.bh < 1000000 := by
  have := bh_hgt h
  have := hgt_le t
  omega
set_option maxHeartbeats 2000000 in
theorem rbJoin_bt {xm km vm : Nat} {k v : ByteArray} {low : BT} : ∀ (f : Nat) (R : Nat → Option (List Nat)) (t : BT), R 0 = none → t.At R → low.At R → t.RB → low.RB → low.bh ≤ t.bh → Lo R xm km vm k v →
    (nodeT tn xm km vm 0 k v t low).hs.Nodup → t.size + low.size < 999980 → t.hgt ≤ f →
    ∃ T : BT, (rbJoin tn xm low.root f R t.root).2 = T.root ∧ T.At (rbJoin tn xm low.root f R t.root).1 ∧ Sim (nodeT tn xm km vm 0 k v t low) T ∧ (∀ z, z ∉ (nodeT tn xm km vm 0 k v t low).nodes → (rbJoin tn xm low.root f R t.root).1 z = R z) ∧ T.bh = t.bh ∧
      (t.red = false → W1 tn T ∧ (low.bh < t.bh → T.RB)) ∧ (t.red = true → W2 tn (W1 tn) T ∧ (low.bh < t.bh → W2 tn RB T)) := by
  intro f
  have base : ∀ (R : Nat → Option (List Nat)) (t : BT), R 0 = none → t.At R → low.At R → t.RB → low.RB → Lo R xm km vm k v → (nodeT tn xm km vm 0 k v t low).hs.Nodup → t.size + low.size < 999980 → t.red = false → t.bh = low.bh →
      ∃ T : BT, xm = T.root ∧ T.At (rbPutT R tn xm t.root low.root true) ∧ Sim (nodeT tn xm km vm 0 k v t low) T ∧ (∀ z, z ∉ (nodeT tn xm km vm 0 k v t low).nodes → rbPutT R tn xm t.root low.root true z = R z) ∧ T.bh = t.bh ∧
        (t.red = false → W1 tn T ∧ (low.bh < t.bh → T.RB)) ∧ (t.red = true → W2 tn (W1 tn) T ∧ (low.bh < t.bh → W2 tn RB T)) := by
    intro R t h0 ht hl rt rl hm hn sz e1 e2
    obtain ⟨nA, nB, ⟨a1, a2, a3⟩, ⟨b1, b2, b3⟩, ⟨c1, c2, c3⟩, c4⟩ := nodeT_nodup.1 hn
    have hp := put_bt (tn := tn) (rd := true) h0 hm ht hl e2 (bh_small rt (by omega)) (by omega) a1 b1 c1 c2
    rw [if_pos rfl] at hp
    refine ⟨_, nodeT_root.symm, hp, nodeT_in (Sim.refl t) (Sim.refl low), fun z hz => ?_, ?_, fun _ => ⟨⟨_, _, _, _, _, _, _, _, rfl, e2, rt, rl, .inr ⟨rfl, e1⟩⟩, fun h => by omega⟩, fun h => by rw [e1] at h; cases h⟩
    · rw [nodeT_nodes] at hz
      exact rbPut_other (fun e => hz (.inr (.inl e)))
    · rw [nodeT_bh]; omega
  induction f with
  | zero =>
    intro R t h0 ht hl rt rl hbh hm hn sz hf
    have ht0 : t = nil := by
      cases t with
      | nil => rfl
      | node x kx vx m k v l r => simp only [hgt] at hf; omega
    subst ht0
    exact base R nil h0 ht hl rt rl hm hn sz rfl (by have : (nil : BT).bh = 0 := rfl; omega)
  | succ f ih =>
    intro R t h0 ht hl rt rl hbh hm hn sz hf
    rw [rbJoin, (rbB_at ht h0).1, (rbB_at ht h0).2, (rbB_at hl h0).1]
    by_cases hc : t.red = false ∧ t.bh = low.bh
    · rw [if_pos hc]
      exact base R t h0 ht hl rt rl hm hn sz hc.1 hc.2
    · rw [if_neg hc]
      have hne : t ≠ nil := fun e => hc (by subst e; exact ⟨rfl, by have : (nil : BT).bh = 0 := rfl; omega⟩)
      obtain ⟨x, kx, vx, m, k', v', A, B, rfl⟩ := nodeT_cases tn hne
      obtain ⟨g1, g2, g3, g4, g5⟩ := nodeT_g ht
      obtain ⟨x0, hx, hkx, hvx, kx1, vx1, hA, hB⟩ := nodeT_at.1 ht
      obtain ⟨rm, rAB, rA, rB⟩ := nodeT_RB.1 rt
      have hLx := Lo.of ht
      obtain ⟨nt, nl, ⟨a1, a2, a3⟩, ⟨b1, b2, b3⟩, ⟨c1, c2, c3⟩, c4⟩ := nodeT_nodup.1 hn
      obtain ⟨mA, mB, ⟨d1, d2, d3⟩, ⟨e1, e2, e3⟩, ⟨f1, f2, f3⟩, f4⟩ := nodeT_nodup.1 nt
      rw [nodeT_root, g5, nodeT_red]
      rw [nodeT_red, nodeT_bh] at hc
      rw [nodeT_bh] at hbh ⊢
      rw [nodeT_size] at sz
      rw [nodeT_hgt] at hf
      simp only
      have hlB : low.bh ≤ B.bh := by
        rcases rm with h | ⟨h, _⟩
        · have : (m % 2 == 1) = false := by rw [h]; simp
          have h2 : ¬ m / 2 = low.bh := fun e => hc ⟨this, e⟩
          omega
        · omega
      have hnin : ∀ z, z ∈ A.hs ∨ z = x ∨ z = kx ∨ z = vx ∨ z ∈ B.hs → z ≠ xm ∧ z ≠ km ∧ z ≠ vm ∧ z ∉ low.hs := fun z hz => by
        have hzl := nodeT_mem (tn := tn) (m := m) (k := k') (v := v').2 hz
        exact ⟨fun e => a1 (e ▸ hzl), fun e => a2 (e ▸ hzl), fun e => a3 (e ▸ hzl), c4 z hzl⟩
      have hnB : ∀ z, z ∈ B.hs → z ≠ xm ∧ z ≠ km ∧ z ≠ vm ∧ z ∉ low.hs := fun z hz => hnin z (.inr (.inr (.inr (.inr hz))))
      have nn : (nodeT tn xm km vm 0 k v B low).hs.Nodup := nodeT_nodup.2 ⟨mB, nl, ⟨fun e => (hnB _ e).1 rfl, fun e => (hnB _ e).2.1 rfl, fun e => (hnB _ e).2.2.1 rfl⟩, ⟨b1, b2, b3⟩, ⟨c1, c2, c3⟩, fun z hz => (hnB z hz).2.2.2⟩
      obtain ⟨T1, t1, t2, t3, t5, t6, t7, t8⟩ := ih R B h0 hB hl rB rl hlB hm nn (by omega) (by omega)
      rw [t1]
      have hnT : ∀ z, z ∈ A.hs ∨ z = x ∨ z = kx ∨ z = vx → z ∉ T1.hs := fun z hz => by
        rw [t3.hs, nodeT_mem]
        have hz2 := hnin z (by rcases hz with h | h | h | h <;> simp [h])
        rintro (h | h | h | h | h)
        · rcases hz with h' | rfl | rfl | rfl
          · exact f4 z h' h
          · exact e1 h
          · exact e2 h
          · exact e3 h
        · exact hz2.1 h
        · exact hz2.2.1 h
        · exact hz2.2.2.1 h
        · exact hz2.2.2.2 h
      have hof : ∀ z, z ∉ T1.hs → (rbJoin tn xm low.root f R B.root).1 z = R z := fun z hz => t5 z (fun h => hz (by rw [t3.hs]; exact nodes_hs _ _ h))
      have hsT := t3.size
      rw [nodeT_size] at hsT
      have xT := hnT x (by simp)
      have hR1 : (rbJoin tn xm low.root f R B.root).1 0 = none := by
        refine (t5 0 fun h9 => ?_).trans h0
        rcases nodeT_nodes.1 h9 with h | h | h
        · exact nodes_zero h0 hB h
        · exact hm.nz h.symm
        · exact nodes_zero h0 hl h
      have hA1 : A.At (rbJoin tn xm low.root f R B.root).1 := hA.congr fun z hz => hof z (hnT z (.inl hz))
      have hL1 : Lo (rbJoin tn xm low.root f R B.root).1 x kx vx k' v' := hLx.congr (hof x xT) (hof kx (hnT kx (by simp))) (hof vx (hnT vx (by simp)))
      have hp := put_bt (tn := tn) (rd := m % 2 == 1) hR1 hL1 hA1 t2 (rAB.trans t6.symm) (bh_small rA (by omega)) (by omega) d1 xT f1 f2
      have hoth : ∀ u, u ≠ x → rbPutT (rbJoin tn xm low.root f R B.root).1 tn x A.root T1.root (m % 2 == 1) u = (rbJoin tn xm low.root f R B.root).1 u := fun u hu => rbPut_other hu
      have hframe : ∀ z, z ∉ (nodeT tn xm km vm 0 k v (nodeT tn x kx vx m k' v' A B) low).nodes → rbPutT (rbJoin tn xm low.root f R B.root).1 tn x A.root T1.root (m % 2 == 1) z = R z := fun z hz => by
        rw [nodeT_nodes, nodeT_nodes] at hz
        rw [hoth z (fun e => hz (.inl (.inr (.inl e))))]
        refine t5 z fun h => ?_
        rcases nodeT_nodes.1 h with h | h | h
        · exact hz (.inl (.inr (.inr h)))
        · exact hz (.inr (.inl h))
        · exact hz (.inr (.inr h))
      generalize rbPutT (rbJoin tn xm low.root f R B.root).1 tn x A.root T1.root (m % 2 == 1) = R2 at *
      clear hof t2 hA1 hL1 t5
      have h02 : R2 0 = none := (hoth 0 (fun e => x0 e.symm)).trans hR1
      have hmm : (if (m % 2 == 1) = true then 2 * A.bh + 1 else 2 * A.bh + 2) = m := by
        rcases rm with h | ⟨h, _⟩
        · rw [h, if_neg (by simp)]
        · rw [h, if_pos (by simp)]
      rw [hmm] at hp
      have sm : Sim (nodeT tn xm km vm 0 k v (nodeT tn x kx vx m k' v' A B) low) (nodeT tn x kx vx m k' v' A T1) :=
        (nodeT_simT (tn := tn) (m := m) (m' := 0) (m1 := m) (m1' := 0)).symm.trans (nodeT_in (Sim.refl A) t3)
      have hT2 := (nodeT_at.1 hp).2.2.2.2.2.2.2
      rw [(rbB_at hT2 h02).2]
      by_cases hred : (m % 2 == 1) = true
      · -- the tree's root is red
        rw [if_pos (.inl hred)]
        have hm1 : m = 2 * A.bh + 1 ∧ A.red = false ∧ B.red = false := by
          rcases rm with h | h
          · rw [h] at hred; simp at hred
          · exact h
        obtain ⟨w1, w2⟩ := t7 hm1.2.2
        refine ⟨_, nodeT_root.symm, hp, sm, hframe, nodeT_bh, fun h => (by rw [hred] at h; cases h), fun _ => ⟨⟨_, _, _, _, _, _, _, _, rfl, rAB.trans t6.symm, rA, hm1.1, hm1.2.1, w1⟩, fun h => ⟨_, _, _, _, _, _, _, _, rfl, rAB.trans t6.symm, rA, hm1.1, hm1.2.1, w2 (by omega)⟩⟩⟩
      · have hmB : m = 2 * A.bh + 2 := by
          rcases rm with h | ⟨h, _⟩
          · exact h
          · exact absurd (by rw [h]; simp) hred
        -- of a black root all is right, once the sides are
        have hRB : T1.RB → ∃ T : BT, x = T.root ∧ T.At R2 ∧ Sim (nodeT tn xm km vm 0 k v (nodeT tn x kx vx m k' v' A B) low) T ∧ (∀ z, z ∉ (nodeT tn xm km vm 0 k v (nodeT tn x kx vx m k' v' A B) low).nodes → R2 z = R z) ∧ T.bh = m / 2 ∧
            ((m % 2 == 1) = false → W1 tn T ∧ (low.bh < m / 2 → T.RB)) ∧ ((m % 2 == 1) = true → W2 tn (W1 tn) T ∧ (low.bh < m / 2 → W2 tn RB T)) := fun hT => by
          have hN : (nodeT tn x kx vx m k' v' A T1).RB := nodeT_RB.2 ⟨.inl hmB, rAB.trans t6.symm, rA, hT⟩
          exact ⟨_, nodeT_root.symm, hp, sm, hframe, nodeT_bh, fun _ => ⟨⟨_, _, _, _, _, _, _, _, rfl, rAB.trans t6.symm, rA, hT, .inl hmB⟩, fun _ => hN⟩, fun h => absurd h hred⟩
        have hW : W1 tn T1 ∨ W2 tn (W1 tn) T1 := by
          cases hBr : B.red with
          | false => exact .inl (t7 hBr).1
          | true => exact .inr (t8 hBr).1
        cases hTr : T1.red with
        | false =>
          rw [if_pos (.inr rfl)]
          refine hRB ?_
          rcases hW with h | h
          · exact h.rb hTr
          · rw [h.red] at hTr; cases hTr
        | true =>
          rw [if_neg (by simp [hred])]
          obtain ⟨y, ky, vy, my, k1, v1, C, D, rfl, r1, r2, r3, r4, r5⟩ := red_parts hTr hW
          obtain ⟨q1, q2, q3, q4, q5⟩ := nodeT_g hT2
          rw [nodeT_root, q5]
          simp only
          obtain ⟨y0, hy, hky, hvy, ky1, vy1, hC, hD⟩ := nodeT_at.1 hT2
          rw [(rbB_at hD h02).2]
          cases hDr : D.red with
          | false =>
            rw [if_pos rfl]
            refine hRB (nodeT_RB.2 ⟨.inr ⟨r3, r4, hDr⟩, r1, r2, ?_⟩)
            rcases r5 with h | h
            · exact h
            · exact h.rb hDr
          | true =>
            rw [if_neg (by simp)]
            obtain ⟨z, kz, vz, mz, k2, v2, E, G, rfl, s1, s2, s3, s4⟩ := red_parts2 (tn := tn) hDr r5
            obtain ⟨u1, u2, u3, u4, u5⟩ := nodeT_g hD
            rw [nodeT_root, u5]
            simp only
            obtain ⟨z0, hz, hkz, hvz, kz1, vz1, hE, hG⟩ := nodeT_at.1 hD
            have nN := sm.nodup hn
            obtain ⟨_, nY, ⟨_, _, _⟩, ⟨i1, i2, i3⟩, _, i4⟩ := nodeT_nodup.1 nN
            obtain ⟨nC, nD, ⟨j1, j2, j3⟩, ⟨o1, o2, o3⟩, ⟨p1, p2, p3⟩, j4⟩ := nodeT_nodup.1 nY
            obtain ⟨nE, nG, ⟨v1', v2', v3'⟩, ⟨w1, w2, w3⟩, ⟨y1, y2, y3⟩, w4⟩ := nodeT_nodup.1 nD
            simp only [nodeT_mem, not_or] at i1 i2 i3 o1 o2 o3 j4 i4
            rw [nodeT_bh] at r1 t6
            rw [nodeT_size, nodeT_size] at hsT
            have hABh : A.bh = C.bh := by omega
            -- the three puts
            have P1 := put_bt (tn := tn) (rd := false) h02 (Lo.of hD) hE hG s1 (bh_small s2 (by omega)) (by omega) v1' w1 y1 y2
            rw [if_neg (by simp)] at P1
            have f1' : ∀ u, u ≠ z → rbPutT R2 tn z E.root G.root false u = R2 u := fun u hu => rbPut_other hu
            have h03 : rbPutT R2 tn z E.root G.root false 0 = none := (f1' 0 (fun e => z0 e.symm)).trans h02
            have zA : ∀ u ∈ A.hs, u ≠ z := fun u hu e => (i4 u hu).2.2.2.2.2.1 e
            have zC : ∀ u ∈ C.hs, u ≠ z := fun u hu e => (j4 u hu).2.1 e
            have hAx := (nodeT_at.1 hp).2.2.2.2.2.2.1
            have P2 := put_bt (tn := tn) (rd := false) (a := A) (b := C) h03 ((Lo.of hp).congr (f1' x i1.2.2.2.2.2.1) (f1' kx i2.2.2.2.2.2.1) (f1' vx i3.2.2.2.2.2.1)) (hAx.congr fun u hu => f1' u (zA u hu)) (hC.congr fun u hu => f1' u (zC u hu)) hABh (bh_small rA (by omega)) (by omega) d1 i1.1 f1 f2
            rw [if_neg (by simp)] at P2
            have f2' : ∀ u, u ≠ x → rbPutT (rbPutT R2 tn z E.root G.root false) tn x A.root C.root false u = rbPutT R2 tn z E.root G.root false u := fun u hu => rbPut_other hu
            have h04 : rbPutT (rbPutT R2 tn z E.root G.root false) tn x A.root C.root false 0 = none := (f2' 0 (fun e => x0 e.symm)).trans h03
            have f12 : ∀ u, u ≠ x → u ≠ z → rbPutT (rbPutT R2 tn z E.root G.root false) tn x A.root C.root false u = R2 u := fun u hu hv => (f2' u hu).trans (f1' u hv)
            have P1' : (nodeT tn z kz vz (2 * E.bh + 2) k2 v2 E G).At (rbPutT (rbPutT R2 tn z E.root G.root false) tn x A.root C.root false) := P1.congr fun u hu => f2' u (fun e => by
              rw [nodeT_mem] at hu
              subst e
              rcases hu with h | h | h | h | h
              · exact i1.2.2.2.2.1 h
              · exact i1.2.2.2.2.2.1 h
              · exact i1.2.2.2.2.2.2.1 h
              · exact i1.2.2.2.2.2.2.2.1 h
              · exact i1.2.2.2.2.2.2.2.2 h)
            have P3 := put_bt (tn := tn) (rd := true) (a := nodeT tn x kx vx (2 * A.bh + 2) k' v' A C) (b := nodeT tn z kz vz (2 * E.bh + 2) k2 v2 E G) h04
              ((Lo.of hT2).congr (f12 y (fun e => i1.2.1 e.symm) o1.2.1) (f12 ky (fun e => i1.2.2.1 e.symm) o2.2.1) (f12 vy (fun e => i1.2.2.2.1 e.symm) o3.2.1)) P2 P1' (by rw [nodeT_bh, nodeT_bh]; omega)
              (by rw [nodeT_bh]; have := bh_hgt rA; have := hgt_le A; omega) (by rw [nodeT_size, nodeT_size]; omega)
              (by
                rw [nodeT_mem]
                rintro (h | h | h | h | h)
                · exact (i4 y h).2.1 rfl
                · exact i1.2.1 h.symm
                · exact i2.2.1 h.symm
                · exact i3.2.1 h.symm
                · exact j1 h)
              (by
                rw [nodeT_mem]
                rintro (h | h | h | h | h)
                · exact o1.1 h
                · exact o1.2.1 h
                · exact o1.2.2.1 h
                · exact o1.2.2.2.1 h
                · exact o1.2.2.2.2 h) p1 p2
            rw [if_pos rfl, nodeT_root, nodeT_root, nodeT_bh] at P3
            have hN1 : (nodeT tn x kx vx (2 * A.bh + 2) k' v' A C).RB := nodeT_RB.2 ⟨.inl rfl, hABh, rA, r2⟩
            have hN2 : (nodeT tn z kz vz (2 * E.bh + 2) k2 v2 E G).RB := nodeT_RB.2 ⟨.inl rfl, s1, s2, s3⟩
            have hbb : (2 * A.bh + 2) / 2 = (2 * E.bh + 2) / 2 := by omega
            have hY : (nodeT tn y ky vy (2 * ((2 * A.bh + 2) / 2) + 1) k1 v1 (nodeT tn x kx vx (2 * A.bh + 2) k' v' A C) (nodeT tn z kz vz (2 * E.bh + 2) k2 v2 E G)).RB :=
              nodeT_RB.2 ⟨.inr ⟨by rw [nodeT_bh], by rw [nodeT_red]; simp, by rw [nodeT_red]; simp⟩, by rw [nodeT_bh, nodeT_bh]; exact hbb, hN1, hN2⟩
            refine ⟨_, nodeT_root.symm, P3, sm.trans ((nodeT_simT (m1' := 0)).trans (nodeT_in (Sim.refl _) (nodeT_in (Sim.refl _) (Sim.refl _)))), fun u hu => ?_, by rw [nodeT_bh]; omega, fun _ => ⟨hY.w1 (fun e => by have := congrArg BT.size e; rw [nodeT_size] at this; simp only [size] at this; omega), fun _ => hY⟩, fun h => absurd h hred⟩
            have hu2 := sm.mem hu
            rw [nodeT_nodes, nodeT_nodes, nodeT_nodes] at hu2
            simp only [not_or] at hu2
            rw [rbPut_other (fun e => hu2.2.2.2.1 e), f12 u hu2.2.1 hu2.2.2.2.2.2.1, hframe u hu]
end
end BT
end Go.Proofs.YtjpmlneihbckpaaGreatDoor
/- Two trees and a leaf, made one behind the other, then joined: plain law. -/
set_option linter.unusedVariables false
set_option linter.unusedSimpArgs false
namespace Go.Proofs.YtjpmlneihbckpaaGreatDoor
open Go.RowKit Go.Shelf
section
variable {R0 R1 R2 R3 R4 : Nat → Option (List Nat)} {tl tr t : BT} {x kx vx m m0 : Nat} {k v : ByteArray}
theorem leaf_hs : (BT.node x kx vx m k v .nil .nil).hs = [x, kx, vx] := rfl
theorem GrowOut.on {ta tb : BT} (g : GrowOut R1 R2 tb) (h : ta.At R1) : ta.At R2 := h.congr fun z hz => g.keep (BT.hs_in ta h z hz)
theorem GrowOut.off {ta tb : BT} (g : GrowOut R1 R2 tb) (h : ta.At R1) : ∀ z ∈ ta.hs, z ∉ tb.hs := fun z hz hz' => BT.hs_in ta h z hz (g.fresh z hz')
theorem grow_three (gl : GrowOut R0 R1 tl) (gr : GrowOut R1 R2 tr) (gm : GrowOut R2 R3 (.node x kx vx m k v .nil .nil)) :
    tl.At R3 ∧ tr.At R3 ∧ (BT.node x kx vx m0 k v tl tr).hs.Nodup ∧ (∀ z ∈ (BT.node x kx vx m0 k v tl tr).hs, R0 z = none ∧ z ≠ 0) ∧ ∀ z, z ∉ (BT.node x kx vx m0 k v tl tr).hs → R3 z = R0 z := by
  have hl2 := gr.on gl.at'
  have hl3 := gm.on hl2
  have hr3 := gm.on gr.at'
  have o1 := gr.off gl.at'
  have o2 := gm.off hl2
  have o3 := gm.off gr.at'
  have nm := gm.nodup
  rw [leaf_hs] at nm o2 o3
  simp only [List.nodup_cons, List.mem_cons, List.not_mem_nil, or_false, not_or, not_false_eq_true, List.nodup_nil, and_true] at nm
  have f2 : ∀ z, z ∈ [x, kx, vx] → R0 z = none ∧ z ∉ tl.hs ∧ z ∉ tr.hs := fun z hz => by
    have h1 := gm.fresh z (by rw [leaf_hs]; exact hz)
    have a1 : z ∉ tl.hs := fun h => o2 z h hz
    have a2 : z ∉ tr.hs := fun h => o3 z h hz
    rw [gr.old z a2, gl.old z a1] at h1
    exact ⟨h1, a1, a2⟩
  have f1 : ∀ z, z ∈ tr.hs → R0 z = none := fun z hz => by
    have h1 := gr.fresh z hz
    rw [gl.old z (fun h => o1 z h hz)] at h1
    exact h1
  refine ⟨hl3, hr3, ?_, ?_, ?_⟩
  · refine BT.node_nodup.2 ⟨gl.nodup, gr.nodup, ⟨(f2 x (by simp)).2.1, (f2 kx (by simp)).2.1, (f2 vx (by simp)).2.1⟩, ⟨(f2 x (by simp)).2.2, (f2 kx (by simp)).2.2, (f2 vx (by simp)).2.2⟩, ⟨nm.1.1, nm.1.2, nm.2⟩, o1⟩
  · intro z hz
    simp only [BT.hs, List.mem_append, List.mem_cons] at hz
    rcases hz with hz | rfl | rfl | rfl | hz
    · exact ⟨gl.fresh z hz, gl.nz z hz⟩
    · exact ⟨(f2 z (by simp)).1, gm.nz z (by simp [BT.hs])⟩
    · exact ⟨(f2 z (by simp)).1, gm.nz z (by simp [BT.hs])⟩
    · exact ⟨(f2 z (by simp)).1, gm.nz z (by simp [BT.hs])⟩
    · exact ⟨f1 z hz, gr.nz z hz⟩
  · intro z hz
    simp only [BT.hs, List.mem_append, List.mem_cons, not_or] at hz
    rw [gm.old z (by rw [leaf_hs]; simp [hz.2.1, hz.2.2.1, hz.2.2.2.1]), gr.old z hz.2.2.2.2, gl.old z hz.1]
theorem GrowOut.joined (gl : GrowOut R0 R1 tl) (gr : GrowOut R1 R2 tr) (gm : GrowOut R2 R3 (.node x kx vx m k v .nil .nil)) (ht : t.At R4) (hs : BT.Sim (.node x kx vx m0 k v tl tr) t)
    (hf : ∀ z, z ∉ (BT.node x kx vx m0 k v tl tr).nodes → R4 z = R3 z) : GrowOut R0 R4 t := by
  obtain ⟨_, _, h3, h4, h5⟩ := grow_three (m0 := m0) gl gr gm
  refine ⟨ht, hs.nodup h3, fun z hz => ?_, fun z hz => ?_, fun z hz => ?_⟩
  · rw [hs.hs] at hz; exact (h4 z hz).1
  · rw [hs.hs] at hz
    rw [hf z (fun h => hz (BT.nodes_hs _ _ h)), h5 z hz]
  · rw [hs.hs] at hz; exact (h4 z hz).2
end
end Go.Proofs.YtjpmlneihbckpaaGreatDoor
/- avl.Join as it works on records, and of trees: plain law. -/
set_option linter.unusedVariables false
set_option linter.unusedSimpArgs false
namespace Go.Proofs.YtjpmlneihbckpaaGreatDoor
open Go.RowKit Go.Shelf
/-- a node, or nothing -/
def isR (R : Nat → Option (List Nat)) (x : Nat) : Bool := x == 0 || nodeE R x == 0
/-- an answer without an error -/
def okW (p : (Nat → Option (List Nat)) × Nat) : (Nat → Option (List Nat)) × Nat × Nat := (p.1, p.2, 0)
theorem okW_1 (p : (Nat → Option (List Nat)) × Nat) : (okW p).1 = p.1 := rfl
theorem okW_2 (p : (Nat → Option (List Nat)) × Nat) : (okW p).2.1 = p.2 := rfl
theorem okW_3 (p : (Nat → Option (List Nat)) × Nat) : (okW p).2.2 = 0 := rfl
/-- what Join leaves, answers, and with which error -/
def avTop (R : Nat → Option (List Nat)) (l m r : Nat) : (Nat → Option (List Nat)) × Nat × Nat :=
  if m ≠ 0 ∧ isR R l = true ∧ isR R m = true ∧ isR R r = true then okW (avJoin (nodeG R m) m 100 R l r) else (R, 0, 8)
theorem avTop_yes {R : Nat → Option (List Nat)} {l m r : Nat} (hc : m ≠ 0 ∧ isR R l = true ∧ isR R m = true ∧ isR R r = true) : avTop R l m r = okW (avJoin (nodeG R m) m 100 R l r) := by
  unfold avTop
  exact if_pos hc
theorem avTop_no {R : Nat → Option (List Nat)} {l m r : Nat} (hc : ¬ (m ≠ 0 ∧ isR R l = true ∧ isR R m = true ∧ isR R r = true)) : avTop R l m r = (R, 0, 8) := by
  unfold avTop
  exact if_neg hc
theorem avTop_keeps (R : Nat → Option (List Nat)) (l m r : Nat) : KeepsN R (avTop R l m r).1 := by
  have h := avJoin_keeps (nodeG R m) m 100 R l r ⟨rfl, rfl⟩
  by_cases hc : m ≠ 0 ∧ isR R l = true ∧ isR R m = true ∧ isR R r = true
  · rw [avTop_yes hc, okW_1]
    exact h
  · rw [avTop_no hc]
    exact KeepsN.refl R
theorem isR_root {R : Nat → Option (List Nat)} {t : BT} (h : t.At R) : isR R t.root = true := by
  unfold isR
  cases t with
  | nil => rfl
  | node x kx vx m k v l r => rw [BT.root, (h.root_at).1]; simp
/-- two trees and a node are joined to one -/
theorem avTop_bt {R : Nat → Option (List Nat)} {l r : BT} {x kx vx : Nat} {k v : ByteArray} (h0 : R 0 = none) (hl : l.At R) (hr : r.At R) (al : l.Avl) (ar : r.Avl) {m : Nat} {a b : BT} (hm : (BT.node x kx vx m k v a b).At R)
    (hn : (BT.node x kx vx 0 k v l r).hs.Nodup) (sz : l.size + r.size ≤ 100) :
    ∃ t : BT, BT.BalOut R (avTop R l.root x r.root).1 (avTop R l.root x r.root).2.1 (.node x kx vx 0 k v l r) t ∧ (avTop R l.root x r.root).2.2 = 0 ∧ max l.hgt r.hgt ≤ t.hgt ∧ t.hgt ≤ max l.hgt r.hgt + 1 := by
  obtain ⟨ex, gx⟩ := hm.root_at
  have hx0 := hm.1
  have l1 := BT.hgt_le l
  have l2 := BT.hgt_le r
  have hc : x ≠ 0 ∧ isR R l.root = true ∧ isR R x = true ∧ isR R r.root = true := ⟨hx0, isR_root hl, isR_root hm, isR_root hr⟩
  rw [avTop_yes hc, okW_1, okW_2, okW_3]
  have hk : (nodeG R x).key = kx := by rw [gx]
  have hv : (nodeG R x).val = vx := by rw [gx]
  have := BT.join_bt (nd := nodeG R x) (xm := x) (k := k) (v := v) 100 l r h0 hl hr al ar ex hx0 (by rw [hk]; exact hm.2.2.1) (by rw [hv]; exact hm.2.2.2.1) hm.2.2.2.2.1 hm.2.2.2.2.2.1 (by rw [hk, hv]; exact hn) (by omega) (by omega)
  rw [hk, hv] at this
  generalize avJoin (nodeG R x) x 100 R l.root r.root = p at *
  obtain ⟨t, o, t6, t7⟩ := this
  exact ⟨t, o, rfl, t6, t7⟩
end Go.Proofs.YtjpmlneihbckpaaGreatDoor
/- Red-black trees: Join as it works on records, of trees: plain law. -/
set_option linter.unusedVariables false
set_option linter.unusedSimpArgs false
namespace Go.Proofs.YtjpmlneihbckpaaGreatDoor
open Go.RowKit Go.Shelf
namespace BT
/-- a tree T that was joined -/
structure RbOut (R R' : Nat → Option (List Nat)) (y : Nat) (T t : BT) : Prop where
  root : y = t.root
  at' : t.At R'
  sim : Sim T t
  rb : t.RB
  frame : ∀ z, z ∉ T.nodes → R' z = R z
section
variable {tn : Bool} {R : Nat → Option (List Nat)}
/-- an answer, and what it leaves -/
def pairR (R : Nat → Option (List Nat)) (x : Nat) : (Nat → Option (List Nat)) × Nat := (R, x)
theorem rbTop_bt {xm km vm : Nat} {k v : ByteArray} {low t : BT} (h0 : R 0 = none) (ht : t.At R) (hl : low.At R) (rt : t.RB) (rl : low.RB) (hb : low.bh < t.bh) (hm : Lo R xm km vm k v)
    (hn : (nodeT tn xm km vm 0 k v t low).hs.Nodup) (sz : t.size + low.size ≤ 150) :
    ∃ T : BT, RbOut R (rbTop tn R t.root xm low.root).1 (rbTop tn R t.root xm low.root).2 (nodeT tn xm km vm 0 k v t low) T ∧ t.bh ≤ T.bh ∧ T.bh ≤ t.bh + 1 := by
  have l1 := hgt_le t
  obtain ⟨T, t1, t2, t3, t4, t5, t6, t7⟩ := rbJoin_bt 200 R t h0 ht hl rt rl (Nat.le_of_lt hb) hm hn (by omega) (by omega)
  unfold rbTop
  generalize rbJoin tn xm low.root 200 R t.root = p at *
  obtain ⟨R1, y⟩ := p
  simp only at t1 t2 t4 ⊢
  subst t1
  have h01 : R1 0 = none := by
    refine (t4 0 fun h9 => ?_).trans h0
    rcases nodeT_nodes.1 h9 with h | h | h
    · exact nodes_zero h0 ht h
    · exact hm.nz h.symm
    · exact nodes_zero h0 hl h
  have sT := t3.size
  rw [nodeT_size] at sT
  rw [(rbB_at t2 h01).2]
  cases hr : t.red with
  | false =>
    have hT := (t6 hr).2 hb
    obtain ⟨x, kx, vx, m, k', v', a, b, rfl⟩ := nodeT_cases tn ((t6 hr).1.ne)
    obtain ⟨g1, g2, g3, g4, g5⟩ := nodeT_g t2
    rw [nodeT_root, g5]
    simp only
    rw [(rbB_at (nodeT_at.1 t2).2.2.2.2.2.2.2 h01).2]
    have hc : ¬ ((nodeT tn x kx vx m k' v' a b).red = true ∧ b.red = true) := by
      rintro ⟨e1, e2⟩
      obtain ⟨h1, h2, h3, h4⟩ := nodeT_RB.1 hT
      rcases h1 with h | ⟨_, _, h⟩
      · rw [nodeT_red, h] at e1; simp at e1
      · rw [h] at e2; cases e2
    rw [if_neg hc]
    exact ⟨nodeT tn x kx vx m k' v' a b, ⟨nodeT_root.symm, t2, t3, hT, t4⟩, by omega, by omega⟩
  | true =>
    obtain ⟨x, kx, vx, m, k', v', a, b, rfl, r1, r2, r3, r4, r5⟩ := (t7 hr).2 hb
    obtain ⟨g1, g2, g3, g4, g5⟩ := nodeT_g t2
    obtain ⟨x0, _, _, _, _, _, ha, hbb⟩ := nodeT_at.1 t2
    rw [nodeT_root, g5]
    simp only
    rw [(rbB_at hbb h01).2]
    rw [nodeT_size] at sT
    rw [nodeT_bh] at t5
    cases hbr : b.red with
    | false =>
      rw [if_neg (by simp)]
      exact ⟨_, ⟨nodeT_root.symm, t2, t3, nodeT_RB.2 ⟨.inr ⟨r3, r4, hbr⟩, r1, r2, r5⟩, t4⟩, by rw [nodeT_bh]; omega, by rw [nodeT_bh]; omega⟩
    | true =>
      have hnd := t3.nodup hn
      obtain ⟨_, _, ⟨a1, a2, a3⟩, ⟨b1, b2, b3⟩, ⟨c1, c2, c3⟩, c4⟩ := nodeT_nodup.1 hnd
      have la := bh_hgt r2
      have lh := hgt_le a
      have P1 := put_bt (tn := tn) (rd := false) h01 (Lo.of t2) ha hbb r1 (by omega) (by omega) a1 b1 c1 c2
      rw [if_neg (by simp)] at P1
      rw [if_pos ⟨by rw [nodeT_red, r3]; simp, rfl⟩]
      refine ⟨_, ⟨nodeT_root.symm, P1, t3.trans (nodeT_in (Sim.refl a) (Sim.refl b)), nodeT_RB.2 ⟨.inl rfl, r1, r2, r5⟩, fun z hz => ?_⟩, by rw [nodeT_bh]; omega, by rw [nodeT_bh]; omega⟩
      have hz2 := t3.mem hz
      rw [nodeT_nodes] at hz2
      exact (rbPut_other (fun e => hz2 (.inr (.inl e)))).trans (t4 z hz)
/-- two trees and a node -/
theorem rbAll_bt {xm km vm : Nat} {k v : ByteArray} {l r : BT} (h0 : R 0 = none) (hl : l.At R) (hr : r.At R) (al : l.RB) (ar : r.RB) (hm : Lo R xm km vm k v)
    (hn : (node xm km vm 0 k v l r).hs.Nodup) (sz : l.size + r.size ≤ 150) :
    ∃ T : BT, RbOut R (rbAll R l.root xm r.root).1 (rbAll R l.root xm r.root).2 (node xm km vm 0 k v l r) T ∧ max l.bh r.bh ≤ T.bh ∧ T.bh ≤ max l.bh r.bh + 1 ∧
      (l.bh = r.bh → T = node xm km vm (if !l.red && !r.red then 2 * l.bh + 1 else 2 * l.bh + 2) k v l r) := by
  unfold rbAll
  rw [(rbB_at hl h0).1, (rbB_at hr h0).1, (rbB_at hl h0).2, (rbB_at hr h0).2]
  by_cases c1 : r.bh < l.bh
  · rw [if_pos c1]
    obtain ⟨T, o, q1, q2⟩ := rbTop_bt (tn := false) h0 hl hr al ar c1 hm hn sz
    generalize rbTop false R l.root xm r.root = p at *
    exact ⟨T, o, by omega, by omega, fun e => by omega⟩
  · rw [if_neg c1]
    by_cases c2 : l.bh < r.bh
    · rw [if_pos c2]
      obtain ⟨T, o, q1, q2⟩ := rbTop_bt (tn := true) h0 hr hl ar al c2 hm hn (by omega)
      generalize rbTop true R r.root xm l.root = p at *
      exact ⟨T, o, by omega, by omega, fun e => by omega⟩
    · rw [if_neg c2]
      obtain ⟨_, _, ⟨a1, a2, a3⟩, ⟨b1, b2, b3⟩, ⟨d1, d2, d3⟩, d4⟩ := node_nodup.1 hn
      have la := bh_hgt al
      have lh := hgt_le l
      have e : l.bh = r.bh := by omega
      have P1 := put_bt (tn := false) (rd := !l.red && !r.red) h0 hm hl hr e (by omega) (by omega) a1 b1 d1 d2
      refine ⟨_, ⟨rfl, P1, sim_in (Sim.refl l) (Sim.refl r), ?_, fun z hz => ?_⟩, ?_, ?_, fun _ => rfl⟩
      · refine nodeT_RB.2 ⟨?_, e, al, ar⟩
        cases h1 : l.red <;> cases h2 : r.red <;> simp
      · simp only [nodes, List.mem_append, List.mem_cons, not_or] at hz
        exact rbPut_other (tn := false) hz.2.1
      · rw [nodeT_bh]; split <;> omega
      · rw [nodeT_bh]; split <;> omega
end
end BT
/-- what Join leaves, answers, and with which error -/
def rbJ (R : Nat → Option (List Nat)) (l m r : Nat) : (Nat → Option (List Nat)) × Nat × Nat :=
  if m ≠ 0 ∧ isR R l = true ∧ isR R m = true ∧ isR R r = true then okW (rbAll R l m r) else (R, 0, 8)
theorem rbJ_yes {R : Nat → Option (List Nat)} {l m r : Nat} (hc : m ≠ 0 ∧ isR R l = true ∧ isR R m = true ∧ isR R r = true) : rbJ R l m r = okW (rbAll R l m r) := by
  unfold rbJ
  exact if_pos hc
theorem rbJ_no {R : Nat → Option (List Nat)} {l m r : Nat} (hc : ¬ (m ≠ 0 ∧ isR R l = true ∧ isR R m = true ∧ isR R r = true)) : rbJ R l m r = (R, 0, 8) := by
  unfold rbJ
  exact if_neg hc
theorem rbJ_keeps (R : Nat → Option (List Nat)) (l m r : Nat) : KeepsN R (rbJ R l m r).1 := by
  have h := rbAll_keeps R l m r
  by_cases hc : m ≠ 0 ∧ isR R l = true ∧ isR R m = true ∧ isR R r = true
  · rw [rbJ_yes hc, okW_1]
    exact h
  · rw [rbJ_no hc]
    exact KeepsN.refl R
theorem rbJ_bt {R : Nat → Option (List Nat)} {l r : BT} {x kx vx : Nat} {k v : ByteArray} (h0 : R 0 = none) (hl : l.At R) (hr : r.At R) (al : l.RB) (ar : r.RB) {m : Nat} {a b : BT} (hm : (BT.node x kx vx m k v a b).At R)
    (hn : (BT.node x kx vx 0 k v l r).hs.Nodup) (sz : l.size + r.size ≤ 150) :
    ∃ T : BT, BT.RbOut R (rbJ R l.root x r.root).1 (rbJ R l.root x r.root).2.1 (.node x kx vx 0 k v l r) T ∧ (rbJ R l.root x r.root).2.2 = 0 ∧ max l.bh r.bh ≤ T.bh ∧ T.bh ≤ max l.bh r.bh + 1 ∧
      (l.bh = r.bh → T = .node x kx vx (if !l.red && !r.red then 2 * l.bh + 1 else 2 * l.bh + 2) k v l r) := by
  have hx0 := hm.1
  have hc : x ≠ 0 ∧ isR R l.root = true ∧ isR R x = true ∧ isR R r.root = true := ⟨hx0, isR_root hl, isR_root hm, isR_root hr⟩
  rw [rbJ_yes hc, okW_1, okW_2, okW_3]
  have := BT.rbAll_bt h0 hl hr al ar (BT.Lo.of (tn := false) hm) hn sz
  generalize rbAll R l.root x r.root = p at *
  obtain ⟨T, o, q1, q2, q3⟩ := this
  exact ⟨T, o, rfl, q1, q2, q3⟩
end Go.Proofs.YtjpmlneihbckpaaGreatDoor
/- The walks of package redblack: a joiner's top, is, Join. -/
set_option linter.unusedVariables false
set_option linter.unusedSimpArgs false
namespace Go.Proofs.YtjpmlneihbckpaaGreatDoor
open Go.RowKit Go.Shelf
set_option maxRecDepth 100000 in
theorem rbIs_at {w : World} {s N : Nat} {R : Nat → Option (List Nat)} {n : Nat} (h : Rd N w s R n) (x : Nat) (hx : x < 18446744073709551616) : Calls Tryz.prog 56 #[.pointer (some ⟨s, 0, none⟩), .int .u64 (x : Nat)] w fun e w' => e = .returned (.bool (isR R x)) ∧ Below w.heap.size w w' := by
  obtain ⟨nd, hnd⟩ : ∃ nd, nodeG R x = nd := ⟨_, rfl⟩
  obtain ⟨z, hz⟩ : ∃ z, nodeE R x = z := ⟨_, rfl⟩
  have hG := Lib.hid (nget_lit h x hx nd hnd z hz)
  have hv : isR R x = (x == 0 || z == 0) := by unfold isR; rw [hz]
  by_cases h0 : x = 0
  · have d : ((x : Int) == 0) = true := by simp; omega
    have hv2 : Hid (isR R x = true) := Lib.hid (by rw [hv, h0]; rfl)
    clear h hnd hz hv h0
    go_enter Tryz.func56, Tryz.ntmps56
    go_wp2_with fail
    refine hG.out.mono ?_
    rintro e w1 ⟨rfl, hb⟩
    have hbH := Lib.hid hb
    have hz1 := hb.size
    clear hb
    go_wp2
    go_ret
    exact ⟨by rw [hv2.out]; rfl, hbH.out.alloc hz1 _⟩
  · have d : ((x : Int) == 0) = false := by simp; omega
    have hv2 : Hid (isR R x = (z == 0)) := Lib.hid (by rw [hv]; simp [h0])
    have hzz : z = 0 ∨ z ≠ 0 := by omega
    rcases hzz with hz0 | hz0
    · have d2 : ((z : Int) == 0) = true := by simp; omega
      have hv3 : Hid (isR R x = true) := Lib.hid (by rw [hv2.out, hz0]; rfl)
      clear h hnd hz hv h0 hz0
      go_enter Tryz.func56, Tryz.ntmps56
      go_wp2_with fail
      refine hG.out.mono ?_
      rintro e w1 ⟨rfl, hb⟩
      have hbH := Lib.hid hb
      have hz1 := hb.size
      clear hb
      go_wp2
      go_ret
      exact ⟨by rw [hv3.out]; rfl, hbH.out.alloc hz1 _⟩
    · have d2 : ((z : Int) == 0) = false := by simp; omega
      have hv3 : Hid (isR R x = false) := Lib.hid (by rw [hv2.out]; simpa using hz0)
      clear h hnd hz hv h0 hz0
      go_enter Tryz.func56, Tryz.ntmps56
      go_wp2_with fail
      refine hG.out.mono ?_
      rintro e w1 ⟨rfl, hb⟩
      have hbH := Lib.hid hb
      have hz1 := hb.size
      clear hb
      go_wp2
      go_ret
      exact ⟨by rw [hv3.out]; rfl, hbH.out.alloc hz1 _⟩
section
variable {w w' : World} {s : Nat} {F : Nat → Prop} {R : Nat → Option (List Nat)} {H : List Nat} {P q most last G : Nat}
set_option maxHeartbeats 4000000 in
set_option maxRecDepth 100000 in
theorem rbJTop_at (h : StoreIs w s F R H P q most last G) (tn : Bool) (t m low : Nat) (ht : t < 18446744073709551616) (hm : m < 18446744073709551616) (hlow : low < 18446744073709551616) :
    Calls Tryz.prog 57 #[.agg #[.pointer (some ⟨s, 0, none⟩), .bool tn], .int .u64 (t : Nat), .int .u64 (m : Nat), .int .u64 (low : Nat)] w fun e w' => e = .returned (.int .u64 ((rbTop tn R t m low).2 : Nat)) ∧ StoreIs w' s F (rbTop tn R t m low).1 H P q most last G ∧ Turn w F w' F := by
  have hX0 := Box.new w 104 [.pointer (some ⟨s, 0, none⟩), .bool tn]
  obtain ⟨W0, hW0⟩ : ∃ W, W = w.alloc (Obj.cells #[.pointer (some ⟨s, 0, none⟩), .bool tn] 104) := ⟨_, rfl⟩
  have hb0 : Below w.heap.size w W0 := by rw [hW0]; exact (Below.refl _ w).alloc (Nat.le_refl _) _
  rw [← hW0] at hX0
  have hFb0 : ¬ F w.heap.size := fun hf => by have := h.lt hf; omega
  have hS0 := h.below hb0
  have c0 := hX0.at' (i := 0) rfl
  have c1 := hX0.at' (i := 1) rfl
  have hX0H := Lib.hid hX0
  have hT0H : Hid (Turn w F W0 F) := Lib.hid (Turn.below hb0)
  have hW0H := Lib.hid hW0
  have hJ : Calls Tryz.prog 84 #[.agg #[.pointer (some ⟨s, 0, none⟩), .bool tn], .int .u64 (t : Nat), .int .u64 (m : Nat), .int .u64 (low : Nat), .int .i64 0] W0 _ := rbJoin_at tn m low hm hlow 200 W0 R t (Nat.le_refl _) ht hS0
  have hv : rbTop tn R t m low = if rbRed (rbJoin tn m low 200 R t).1 (rbJoin tn m low 200 R t).2 = true ∧ rbRed (rbJoin tn m low 200 R t).1 (rbSides (rbJoin tn m low 200 R t).1 tn (rbJoin tn m low 200 R t).2).2 = true then (rbPutT (rbJoin tn m low 200 R t).1 tn (rbJoin tn m low 200 R t).2 (rbSides (rbJoin tn m low 200 R t).1 tn (rbJoin tn m low 200 R t).2).1 (rbSides (rbJoin tn m low 200 R t).1 tn (rbJoin tn m low 200 R t).2).2 false, (rbJoin tn m low 200 R t).2) else rbJoin tn m low 200 R t := rfl
  generalize rbJoin tn m low 200 R t = p at *
  obtain ⟨Ra, y⟩ := p
  simp only at hJ hv
  have hvH := Lib.hid hv
  have hJH := Lib.hid hJ
  clear h hX0 hb0 hW0 hS0 hJ hv
  go_enter Tryz.func57, Tryz.ntmps57
  go_wp2_with fail
  rw [← hW0H.out]
  go_wp2_with fail
  refine hJH.out.mono ?_
  rintro e W1 ⟨rfl, hy, hS1, hT1⟩
  have hX1H := Lib.hid (hX0H.out.turn hT1 hFb0)
  have hT1H := Lib.hid (hT0H.out.trans hT1)
  obtain ⟨n1, hr1, _⟩ := hS1.rd
  have hS1H := Lib.hid hS1
  have hr1H := Lib.hid hr1
  have hol := rbSides_lt hr1 tn y
  have hSd := rbSides_at hr1 tn y hy
  clear hJH hS1 hT1 hr1 c0 c1 hX0H hT0H
  have c0 := hX1H.out.at' (i := 0) rfl
  have c1 := hX1H.out.at' (i := 1) rfl
  have hRy := Lib.hid (fun W (hb : Below W1.heap.size W1 W) => rbRed_at (hr1H.out.below hb) y hy)
  have hRo := Lib.hid (fun W (hb : Below W1.heap.size W1 W) => rbRed_at (hr1H.out.below hb) (rbSides Ra tn y).2 hol.2)
  generalize rbSides Ra tn y = oo at *
  obtain ⟨ot, ow⟩ := oo
  simp only at hol hRo hSd
  obtain ⟨hot, how⟩ := hol
  have hSdH := Lib.hid hSd
  clear hSd hr1H
  go_wp2_with fail
  refine hSdH.out.mono ?_
  rintro e W2 ⟨rfl, hb2⟩
  have hX2H := Lib.hid (hX1H.out.below hb2)
  have hb2H := Lib.hid hb2
  clear hb2 hSdH c0 c1
  have c0 := hX2H.out.at' (i := 0) rfl
  have c1 := hX2H.out.at' (i := 1) rfl
  cases h1 : rbRed Ra y with
  | false =>
    have hv2 : Hid (rbTop tn R t m low = (Ra, y)) := Lib.hid (by rw [hvH.out, if_neg (by rw [h1]; simp)])
    have hq := Lib.hid (hRy.out W2 hb2H.out)
    rw [h1] at hq
    clear h1 hvH hRy hRo
    go_wp2_with fail
    refine hq.out.mono ?_
    rintro e W3 ⟨rfl, hb3⟩
    have hb3H := Lib.hid (hb2H.out.trans (hb3.mono hb2H.out.size))
    clear hb3 hq c0 c1
    go_wp2
    go_ret
    rw [hv2.out]
    exact ⟨rfl, hS1H.out.below hb3H.out, hT1H.out.trans (Turn.below hb3H.out)⟩
  | true =>
    have hq := Lib.hid (hRy.out W2 hb2H.out)
    rw [h1] at hq
    cases h2 : rbRed Ra ow with
    | false =>
      have hv2 : Hid (rbTop tn R t m low = (Ra, y)) := Lib.hid (by rw [hvH.out, if_neg (by rw [h2]; simp)])
      have hq2 := Lib.hid (fun W (hb : Below W1.heap.size W1 W) => hRo.out W hb)
      rw [h2] at hq2
      clear h1 h2 hvH hRy hRo
      go_wp2_with fail
      refine hq.out.mono ?_
      rintro e W3 ⟨rfl, hb3⟩
      have hb3H := Lib.hid (hb2H.out.trans (hb3.mono hb2H.out.size))
      have hX3H := Lib.hid (hX2H.out.below hb3)
      clear hb3 hq c0 c1 hX2H hb2H
      have c0 := hX3H.out.at' (i := 0) rfl
      have c1 := hX3H.out.at' (i := 1) rfl
      go_wp2_with fail
      refine (hq2.out W3 hb3H.out).mono ?_
      rintro e W4 ⟨rfl, hb4⟩
      have hb4H := Lib.hid (hb3H.out.trans (hb4.mono hb3H.out.size))
      have hX4H := Lib.hid (hX3H.out.below hb4)
      clear hb4 hq2 c0 c1 hX3H hb3H
      go_wp2
      go_ret
      rw [hv2.out]
      exact ⟨rfl, hS1H.out.below hb4H.out, hT1H.out.trans (Turn.below hb4H.out)⟩
    | true =>
      have hv2 := Lib.hid (hvH.out.trans (if_pos ⟨h1, h2⟩))
      have hq2 := Lib.hid (fun W (hb : Below W1.heap.size W1 W) => hRo.out W hb)
      rw [h2] at hq2
      clear h1 h2 hvH hRy hRo
      go_wp2_with fail
      refine hq.out.mono ?_
      rintro e W3 ⟨rfl, hb3⟩
      have hb3H := Lib.hid (hb2H.out.trans (hb3.mono hb2H.out.size))
      have hX3H := Lib.hid (hX2H.out.below hb3)
      clear hb3 hq c0 c1 hX2H hb2H
      have c0 := hX3H.out.at' (i := 0) rfl
      have c1 := hX3H.out.at' (i := 1) rfl
      go_wp2_with fail
      refine (hq2.out W3 hb3H.out).mono ?_
      rintro e W4 ⟨rfl, hb4⟩
      have hb4H := Lib.hid (hb3H.out.trans (hb4.mono hb3H.out.size))
      have hX4H := Lib.hid (hX3H.out.below hb4)
      clear hb4 hq2 c0 c1 hX3H hb3H
      have c0 := hX4H.out.at' (i := 0) rfl
      have c1 := hX4H.out.at' (i := 1) rfl
      have hP := Lib.hid (rbPutT_at (hS1H.out.below hb4H.out) tn y ot ow hy hot how false)
      go_wp2_with fail
      refine hP.out.mono ?_
      rintro e W5 ⟨rfl, hS5, hT5⟩
      have hS5H := Lib.hid hS5
      have hT5H := Lib.hid ((hT1H.out.trans (Turn.below hb4H.out)).trans hT5)
      clear hS5 hT5 hP c0 c1
      go_wp2
      go_ret
      rw [hv2.out]
      exact ⟨rfl, hS5H.out, hT5H.out⟩
set_option maxHeartbeats 4000000 in
set_option maxRecDepth 100000 in
theorem rbTop_at (h : StoreIs w s F R H P q most last G) (l m r : Nat) (hl : l < 18446744073709551616) (hm : m < 18446744073709551616) (hr : r < 18446744073709551616) :
    Calls Tryz.prog 24 #[.pointer (some ⟨s, 0, none⟩), .int .u64 (l : Nat), .int .u64 (m : Nat), .int .u64 (r : Nat)] w fun e w' => e = .returned (.tuple #[.int .u64 ((rbJ R l m r).2.1 : Nat), .int .i64 ((rbJ R l m r).2.2 : Nat)]) ∧ StoreIs w' s F (rbJ R l m r).1 H P q most last G ∧ Turn w F w' F := by
  obtain ⟨n, hrd, _⟩ := h.rd
  have hLen := rlen_at hrd 0 (by omega)
  have hI := Lib.hid (fun W (hb : Below w.heap.size w W) y (hy : y < 18446744073709551616) => rbIs_at (hrd.below hb) y hy)
  have hBk := Lib.hid (fun W (hb : Below w.heap.size w W) y (hy : y < 18446744073709551616) => rbBlack_at (hrd.below hb) y hy)
  have hRe := Lib.hid (fun W (hb : Below w.heap.size w W) y (hy : y < 18446744073709551616) => rbRed_at (hrd.below hb) y hy)
  have hHs := Lib.hid h
  obtain ⟨lv, hlv, hle⟩ : ∃ (a b : Nat), lenR R 0 = .tuple #[.int .i64 (a : Nat), .int .i64 (b : Nat)] ∧ b ≠ 1 := by
    unfold lenR
    cases R 0 with
    | none => exact ⟨0, 7, rfl, by decide⟩
    | some ws => exact ⟨ws.length, 0, rfl, by decide⟩
  rw [hle.1] at hLen
  have hl1 := hle.2
  have dl : ((hlv : Int) == 1) = false := by simp; omega
  have hLenH := Lib.hid hLen
  clear h hrd hLen hle
  have fin : ∀ (hc : ¬ (m ≠ 0 ∧ isR R l = true ∧ isR R m = true ∧ isR R r = true)), Hid (rbJ R l m r = (R, 0, 8)) := fun hc => Lib.hid (rbJ_no hc)
  by_cases hm0 : m = 0
  · have d0 : ((m : Int) == 0) = true := by simp; omega
    have hv := fin (fun hc => hc.1 hm0)
    clear fin hm0
    go_enter Tryz.func24, Tryz.ntmps24
    go_wp2_with fail
    refine hLenH.out.mono ?_
    rintro e w1 ⟨rfl, rfl⟩
    go_wp2
    go_ret2
    rw [hv.out]
    exact ⟨rfl, hHs.out, Turn.refl _ _⟩
  · have d0 : ((m : Int) == 0) = false := by simp; omega
    cases h1 : isR R l with
    | false =>
      have hv := fin (fun hc => by rw [h1] at hc; cases hc.2.1)
      have hi1 := Lib.hid (hI.out w (Below.refl _ _) l hl)
      rw [h1] at hi1
      clear fin h1 hm0 hI
      go_enter Tryz.func24, Tryz.ntmps24
      go_wp2_with fail
      refine hLenH.out.mono ?_
      rintro e w1 ⟨rfl, rfl⟩
      go_wp2_with fail
      refine hi1.out.mono ?_
      rintro e w1 ⟨rfl, hb1⟩
      have hb1H := Lib.hid hb1
      clear hb1
      go_wp2
      go_ret2
      rw [hv.out]
      exact ⟨rfl, hHs.out.below hb1H.out, Turn.below hb1H.out⟩
    | true =>
      have hi1 := Lib.hid (hI.out w (Below.refl _ _) l hl)
      have hi2 := Lib.hid (fun W (hb : Below w.heap.size w W) => hI.out W hb m hm)
      rw [h1] at hi1
      cases h2 : isR R m with
      | false =>
        have hv := fin (fun hc => by rw [h2] at hc; cases hc.2.2.1)
        rw [h2] at hi2
        clear fin h1 h2 hm0 hI
        go_enter Tryz.func24, Tryz.ntmps24
        go_wp2_with fail
        refine hLenH.out.mono ?_
        rintro e w1 ⟨rfl, rfl⟩
        go_wp2_with fail
        refine hi1.out.mono ?_
        rintro e w1 ⟨rfl, hb1⟩
        have hb1H := Lib.hid hb1
        clear hb1
        go_wp2_with fail
        refine (hi2.out _ hb1H.out).mono ?_
        rintro e w2 ⟨rfl, hb2⟩
        have hb2H := Lib.hid (hb1H.out.trans (hb2.mono hb1H.out.size))
        clear hb2
        go_wp2
        go_ret2
        rw [hv.out]
        exact ⟨rfl, hHs.out.below hb2H.out, Turn.below hb2H.out⟩
      | true =>
        have hi3 := Lib.hid (fun W (hb : Below w.heap.size w W) => hI.out W hb r hr)
        rw [h2] at hi2
        cases h3 : isR R r with
        | false =>
          have hv := fin (fun hc => by rw [h3] at hc; cases hc.2.2.2)
          rw [h3] at hi3
          clear fin h1 h2 h3 hm0 hI
          go_enter Tryz.func24, Tryz.ntmps24
          go_wp2_with fail
          refine hLenH.out.mono ?_
          rintro e w1 ⟨rfl, rfl⟩
          go_wp2_with fail
          refine hi1.out.mono ?_
          rintro e w1 ⟨rfl, hb1⟩
          have hb1H := Lib.hid hb1
          clear hb1
          go_wp2_with fail
          refine (hi2.out _ hb1H.out).mono ?_
          rintro e w2 ⟨rfl, hb2⟩
          have hb2H := Lib.hid (hb1H.out.trans (hb2.mono hb1H.out.size))
          clear hb2
          go_wp2_with fail
          refine (hi3.out _ hb2H.out).mono ?_
          rintro e w3 ⟨rfl, hb3⟩
          have hb3H := Lib.hid (hb2H.out.trans (hb3.mono hb2H.out.size))
          clear hb3
          go_wp2
          go_ret2
          rw [hv.out]
          exact ⟨rfl, hHs.out.below hb3H.out, Turn.below hb3H.out⟩
        | true =>
          have hv := Lib.hid (rbJ_yes (R := R) (l := l) (m := m) (r := r) ⟨hm0, h1, h2, h3⟩)
          have hall : Hid (rbAll R l m r = if rbB R r < rbB R l then rbTop false R l m r else if rbB R l < rbB R r then rbTop true R r m l else (rbPut R m l r (!rbRed R l && !rbRed R r), m)) := Lib.hid rfl
          have hTA := Lib.hid (fun W (hb : Below w.heap.size w W) => rbJTop_at (hHs.out.below hb) false l m r hl hm hr)
          have hTB := Lib.hid (fun W (hb : Below w.heap.size w W) => rbJTop_at (hHs.out.below hb) true r m l hr hm hl)
          have hPu := Lib.hid (fun W (hb : Below w.heap.size w W) => rbPut_at (hHs.out.below hb) m l r hm hl hr (!rbRed R l && !rbRed R r))
          have hB1 := Lib.hid (fun W (hb : Below w.heap.size w W) => hBk.out W hb l hl)
          have hB2 := Lib.hid (fun W (hb : Below w.heap.size w W) => hBk.out W hb r hr)
          have hR1 := Lib.hid (fun W (hb : Below w.heap.size w W) => hRe.out W hb l hl)
          have hR2 := Lib.hid (fun W (hb : Below w.heap.size w W) => hRe.out W hb r hr)
          rw [h3] at hi3
          generalize rbTop false R l m r = pa at *
          generalize rbTop true R r m l = pb at *
          generalize rbPut R m l r (!rbRed R l && !rbRed R r) = Rp at *
          generalize rbB R l = b1 at *
          generalize rbB R r = b2 at *
          generalize rbRed R l = r1 at *
          generalize rbRed R r = r2 at *
          clear fin h1 h2 h3 hm0 hI hBk hRe
          by_cases q1 : b2 < b1
          · have d1 : decide (b2 < b1) = true := decide_eq_true q1
            have hall2 := Lib.hid (hall.out.trans (if_pos q1))
            clear q1 hall
            go_enter Tryz.func24, Tryz.ntmps24
            go_wp2_with fail
            refine hLenH.out.mono ?_
            rintro e w1 ⟨rfl, rfl⟩
            go_wp2_with fail
            refine hi1.out.mono ?_
            rintro e w1 ⟨rfl, hb1⟩
            have hb1H := Lib.hid hb1
            clear hb1
            go_wp2_with fail
            refine (hi2.out _ hb1H.out).mono ?_
            rintro e w2 ⟨rfl, hb2⟩
            have hb2H := Lib.hid (hb1H.out.trans (hb2.mono hb1H.out.size))
            clear hb2
            go_wp2_with fail
            refine (hi3.out _ hb2H.out).mono ?_
            rintro e w3 ⟨rfl, hb3⟩
            have hb3H := Lib.hid (hb2H.out.trans (hb3.mono hb2H.out.size))
            clear hb3
            go_wp2_with fail
            refine (hB1.out _ hb3H.out).mono ?_
            rintro e w4 ⟨rfl, hb4⟩
            have hb4H := Lib.hid (hb3H.out.trans (hb4.mono hb3H.out.size))
            clear hb4
            go_wp2_with fail
            refine (hB2.out _ hb4H.out).mono ?_
            rintro e w5 ⟨rfl, hb5⟩
            have hb5H := Lib.hid (hb4H.out.trans (hb5.mono hb4H.out.size))
            clear hb5
            go_wp2_with fail
            refine (hTA.out _ hb5H.out).mono ?_
            rintro e w6 ⟨rfl, hS6, hT6⟩
            have hS6H := Lib.hid hS6
            have hT6H := Lib.hid ((Turn.below (F := F) hb5H.out).trans hT6)
            clear hS6 hT6
            go_wp2
            go_ret2
            rw [hv.out, okW_1, okW_2, okW_3, hall2.out]
            exact ⟨rfl, hS6H.out, hT6H.out⟩
          · have d1 : decide (b2 < b1) = false := decide_eq_false q1
            by_cases q2 : b1 < b2
            · have d2 : decide (b1 < b2) = true := decide_eq_true q2
              have hall2 := Lib.hid ((hall.out.trans (if_neg q1)).trans (if_pos q2))
              clear q1 q2 hall
              go_enter Tryz.func24, Tryz.ntmps24
              go_wp2_with fail
              refine hLenH.out.mono ?_
              rintro e w1 ⟨rfl, rfl⟩
              go_wp2_with fail
              refine hi1.out.mono ?_
              rintro e w1 ⟨rfl, hb1⟩
              have hb1H := Lib.hid hb1
              clear hb1
              go_wp2_with fail
              refine (hi2.out _ hb1H.out).mono ?_
              rintro e w2 ⟨rfl, hb2⟩
              have hb2H := Lib.hid (hb1H.out.trans (hb2.mono hb1H.out.size))
              clear hb2
              go_wp2_with fail
              refine (hi3.out _ hb2H.out).mono ?_
              rintro e w3 ⟨rfl, hb3⟩
              have hb3H := Lib.hid (hb2H.out.trans (hb3.mono hb2H.out.size))
              clear hb3
              go_wp2_with fail
              refine (hB1.out _ hb3H.out).mono ?_
              rintro e w4 ⟨rfl, hb4⟩
              have hb4H := Lib.hid (hb3H.out.trans (hb4.mono hb3H.out.size))
              clear hb4
              go_wp2_with fail
              refine (hB2.out _ hb4H.out).mono ?_
              rintro e w5 ⟨rfl, hb5⟩
              have hb5H := Lib.hid (hb4H.out.trans (hb5.mono hb4H.out.size))
              clear hb5
              go_wp2_with fail
              refine (hTB.out _ hb5H.out).mono ?_
              rintro e w6 ⟨rfl, hS6, hT6⟩
              have hS6H := Lib.hid hS6
              have hT6H := Lib.hid ((Turn.below (F := F) hb5H.out).trans hT6)
              clear hS6 hT6
              go_wp2
              go_ret2
              rw [hv.out, okW_1, okW_2, okW_3, hall2.out]
              exact ⟨rfl, hS6H.out, hT6H.out⟩
            · have d2 : decide (b1 < b2) = false := decide_eq_false q2
              have hall2 := Lib.hid ((hall.out.trans (if_neg q1)).trans (if_neg q2))
              clear q1 q2 hall
              cases r1 with
              | true =>
                go_enter Tryz.func24, Tryz.ntmps24
                go_wp2_with fail
                refine hLenH.out.mono ?_
                rintro e w1 ⟨rfl, rfl⟩
                go_wp2_with fail
                refine hi1.out.mono ?_
                rintro e w1 ⟨rfl, hb1⟩
                have hb1H := Lib.hid hb1
                clear hb1
                go_wp2_with fail
                refine (hi2.out _ hb1H.out).mono ?_
                rintro e w2 ⟨rfl, hb2⟩
                have hb2H := Lib.hid (hb1H.out.trans (hb2.mono hb1H.out.size))
                clear hb2
                go_wp2_with fail
                refine (hi3.out _ hb2H.out).mono ?_
                rintro e w3 ⟨rfl, hb3⟩
                have hb3H := Lib.hid (hb2H.out.trans (hb3.mono hb2H.out.size))
                clear hb3
                go_wp2_with fail
                refine (hB1.out _ hb3H.out).mono ?_
                rintro e w4 ⟨rfl, hb4⟩
                have hb4H := Lib.hid (hb3H.out.trans (hb4.mono hb3H.out.size))
                clear hb4
                go_wp2_with fail
                refine (hB2.out _ hb4H.out).mono ?_
                rintro e w5 ⟨rfl, hb5⟩
                have hb5H := Lib.hid (hb4H.out.trans (hb5.mono hb4H.out.size))
                clear hb5
                go_wp2_with fail
                refine (hR1.out _ hb5H.out).mono ?_
                rintro e w6 ⟨rfl, hb6⟩
                have hb6H := Lib.hid (hb5H.out.trans (hb6.mono hb5H.out.size))
                clear hb6
                have hPu2 : Hid (∀ W, Below w.heap.size w W → Calls Tryz.prog 58 #[.pointer (some ⟨s, 0, none⟩), .int .u64 (m : Nat), .int .u64 (l : Nat), .int .u64 (r : Nat), .bool false] W _) := hPu
                clear hPu
                go_wp2_with fail
                refine (hPu2.out _ hb6H.out).mono ?_
                rintro e w7 ⟨rfl, hS7, hT7⟩
                have hS7H := Lib.hid hS7
                have hT7H := Lib.hid ((Turn.below (F := F) hb6H.out).trans hT7)
                clear hS7 hT7
                go_wp2
                go_ret2
                rw [hv.out, okW_1, okW_2, okW_3, hall2.out]
                exact ⟨rfl, hS7H.out, hT7H.out⟩
              | false =>
                go_enter Tryz.func24, Tryz.ntmps24
                go_wp2_with fail
                refine hLenH.out.mono ?_
                rintro e w1 ⟨rfl, rfl⟩
                go_wp2_with fail
                refine hi1.out.mono ?_
                rintro e w1 ⟨rfl, hb1⟩
                have hb1H := Lib.hid hb1
                clear hb1
                go_wp2_with fail
                refine (hi2.out _ hb1H.out).mono ?_
                rintro e w2 ⟨rfl, hb2⟩
                have hb2H := Lib.hid (hb1H.out.trans (hb2.mono hb1H.out.size))
                clear hb2
                go_wp2_with fail
                refine (hi3.out _ hb2H.out).mono ?_
                rintro e w3 ⟨rfl, hb3⟩
                have hb3H := Lib.hid (hb2H.out.trans (hb3.mono hb2H.out.size))
                clear hb3
                go_wp2_with fail
                refine (hB1.out _ hb3H.out).mono ?_
                rintro e w4 ⟨rfl, hb4⟩
                have hb4H := Lib.hid (hb3H.out.trans (hb4.mono hb3H.out.size))
                clear hb4
                go_wp2_with fail
                refine (hB2.out _ hb4H.out).mono ?_
                rintro e w5 ⟨rfl, hb5⟩
                have hb5H := Lib.hid (hb4H.out.trans (hb5.mono hb4H.out.size))
                clear hb5
                go_wp2_with fail
                refine (hR1.out _ hb5H.out).mono ?_
                rintro e w6 ⟨rfl, hb6⟩
                have hb6H := Lib.hid (hb5H.out.trans (hb6.mono hb5H.out.size))
                clear hb6
                have hPu2 : Hid (∀ W, Below w.heap.size w W → Calls Tryz.prog 58 #[.pointer (some ⟨s, 0, none⟩), .int .u64 (m : Nat), .int .u64 (l : Nat), .int .u64 (r : Nat), .bool (!r2)] W _) := hPu
                clear hPu
                go_wp2_with fail
                refine (hR2.out _ hb6H.out).mono ?_
                rintro e w7 ⟨rfl, hb7⟩
                have hb7H := Lib.hid (hb6H.out.trans (hb7.mono hb6H.out.size))
                clear hb7
                go_wp2_with fail
                refine (hPu2.out _ hb7H.out).mono ?_
                rintro e w8 ⟨rfl, hS8, hT8⟩
                have hS8H := Lib.hid hS8
                have hT8H := Lib.hid ((Turn.below (F := F) hb7H.out).trans hT8)
                clear hS8 hT8
                go_wp2
                go_ret2
                rw [hv.out, okW_1, okW_2, okW_3, hall2.out]
                exact ⟨rfl, hS8H.out, hT8H.out⟩
end
end Go.Proofs.YtjpmlneihbckpaaGreatDoor
/- The walks of package redblack: Check. -/
set_option linter.unusedVariables false
set_option linter.unusedSimpArgs false
namespace Go.Proofs.YtjpmlneihbckpaaGreatDoor
open Go.RowKit Go.Shelf
/-- what Check finds wrong with a node: its sides' black heights, its own, two red ones in a row -/
def rbBad1 (R : Nat → Option (List Nat)) (x : Nat) : Bool := rbB R (nodeG R x).right != rbB R (nodeG R x).left
def rbBad2 (R : Nat → Option (List Nat)) (x : Nat) : Bool := rbB R x != (if rbRed R x then rbB R (nodeG R x).left else rbB R (nodeG R x).left + 1)
def rbBad3 (R : Nat → Option (List Nat)) (x : Nat) : Bool := rbRed R x && (rbRed R (nodeG R x).left || rbRed R (nodeG R x).right)
def rbBad (R : Nat → Option (List Nat)) (x : Nat) : Bool := rbBad1 R x || rbBad2 R x || rbBad3 R x
/-- what Check answers -/
def rcheckR (R : Nat → Option (List Nat)) (n root : Nat) : Nat := if checkR R n root ≠ 0 then checkR R n root else if (inR R n root).any (rbBad R) then 8 else 0
section
variable {w w' : World} {s N : Nat} {R : Nat → Option (List Nat)} {n : Nat}
set_option maxHeartbeats 4000000 in
set_option maxRecDepth 100000 in
theorem rbCheck_at (h : Rd N w s R n) (hsh : Short R) (x : Nat) (hx : x < 18446744073709551616) :
    Calls Tryz.prog 21 #[.pointer (some ⟨s, 0, none⟩), .int .u64 (x : Nat)] w fun e w' => e = .returned (.int .i64 (rcheckR R n x : Nat)) ∧ Below w.heap.size w w' := by
  have hCk := check_at h hsh x hx
  have hLi := Lib.hid (fun W (hb : Below w.heap.size w W) => list_at (h.below hb) x hx)
  have hGt := Lib.hid (fun W (hb : Below w.heap.size w W) y (hy : y < 18446744073709551616) nd (hnd : nodeG R y = nd) => rbGet_at (h.below hb) y hy nd hnd)
  have hBk := Lib.hid (fun W (hb : Below w.heap.size w W) y (hy : y < 18446744073709551616) => rbBlack_at (h.below hb) y hy)
  have hRe := Lib.hid (fun W (hb : Below w.heap.size w W) y (hy : y < 18446744073709551616) => rbRed_at (h.below hb) y hy)
  have hokG := Lib.hid (fun y => h.nodeG y)
  have hBl : Hid (∀ y, rbB R y < 9223372036854775808) := Lib.hid (fun y => by have := (h.nodeG y).mark; unfold rbB; omega)
  have hlen := inR_len R n x
  have hnle := h.le
  have hLlt := Lib.hid (fun y (hy : y ∈ inR R n x) => inR_lt (fun z => h.nodeG z) hx y hy)
  obtain ⟨c, hc⟩ : ∃ c, checkR R n x = c := ⟨_, rfl⟩
  have hv : rcheckR R n x = if c ≠ 0 then c else if (inR R n x).any (rbBad R) then 8 else 0 := by unfold rcheckR; rw [hc]
  have hc9 : c = 0 ∨ c = 8 := by rw [← hc]; exact checkR_val R n x
  rw [hc] at hCk
  have hCkH := Lib.hid hCk
  generalize inR R n x = L at *
  clear hCk hc
  by_cases hc0 : c = 0
  · have dc : ((c : Int) != 0) = false := by rw [hc0]; rfl
    rw [if_neg (by simp [hc0])] at hv
    have hvH := Lib.hid hv
    clear hv hc0 hc9 h hsh
    go_enter Tryz.func21, Tryz.ntmps21
    go_wp2_with fail
    refine hCkH.out.mono ?_
    rintro e w1 ⟨rfl, hb1⟩
    have hb1H := Lib.hid hb1
    clear hb1 hCkH
    go_wp2_with fail
    refine (hLi.out _ hb1H.out).mono ?_
    rintro e w2 ⟨v, rfl, hro, hb2⟩
    obtain ⟨A2, c2, rfl⟩ := ownsRow_form hro
    have hb2H := Lib.hid (hb1H.out.trans (hb2.mono hb1H.out.size))
    have hcl : Hid (∀ i (hi : i < L.length), ∃ g, A2 = some ⟨g, 0, none⟩ ∧ ∀ W, Below w2.heap.size w2 W → W.cell? ⟨g, i, none⟩ = some (.int .u64 (L[i] : Nat))) := Lib.hid (fun i hi => by
      obtain ⟨g, cap, hv⟩ := row_pos hro (by omega)
      cases hv
      refine ⟨g, rfl, fun W hb => ?_⟩
      have h1 := hro.cells (g := g) rfl i (.int .u64 (L[i] : Nat)) (by rw [hsV, List.getElem?_map, List.getElem?_eq_getElem hi]; rfl)
      rw [show (⟨g, 0, none⟩ : Addr).add i = ⟨g, i, none⟩ by unfold Addr.add; split <;> simp_all] at h1
      exact (hb.cell (p := ⟨g, i, none⟩) (cell_lt h1)).trans h1)
    clear hro hb2 hLi hb1H
    go_wp2_with fail
    go_loopw [21] (fun iv wr => ∃ k : Nat, k ≤ L.length ∧ iv = .int .i64 k ∧ Hid (Below w2.heap.size w2 wr) ∧ Hid ((L.take k).any (rbBad R) = false)) (fun iv _ => L.length - (intOf iv).toNat)
    case atStart => exact ⟨0, by omega, rfl, Lib.hid (Below.refl _ _), Lib.hid (by simp)⟩
    case round =>
      obtain ⟨k, hk, rfl, hbr, hpre⟩ := hrel
      by_cases hlt : k < L.length
      · obtain ⟨g, hA, hg⟩ := hcl.out k hlt
        subst hA
        have hc0 := hg wr hbr.out
        have hylt := hLlt.out L[k] (List.getElem_mem hlt)
        have hnx : Hid ((L.take (k + 1)).any (rbBad R) = rbBad R L[k]) := Lib.hid (by rw [List.take_succ_eq_append_getElem hlt, List.any_append, hpre.out]; simp)
        have hall : Hid (rbBad R L[k] = true → L.any (rbBad R) = true) := Lib.hid (fun hb => List.any_eq_true.2 ⟨_, List.getElem_mem hlt, hb⟩)
        obtain ⟨y, hy⟩ : ∃ y, L[k] = y := ⟨_, rfl⟩
        rw [hy] at hc0 hylt hnx hall
        have hbwr := Lib.hid (hb2H.out.trans (hbr.out.mono hb2H.out.size))
        obtain ⟨t, ht⟩ : ∃ t, nodeG R y = t := ⟨_, rfl⟩
        have hg3 := Lib.hid (hGt.out wr hbwr.out y hylt t ht)
        have hokt := hokG.out y
        rw [ht] at hokt
        have hbd : rbBad R y = (rbB R t.right != rbB R t.left || rbB R y != (if rbRed R y then rbB R t.left else rbB R t.left + 1) || rbRed R y && (rbRed R t.left || rbRed R t.right)) := by unfold rbBad rbBad1 rbBad2 rbBad3; rw [ht]
        have hBL := Lib.hid (fun W (hb : Below w.heap.size w W) => hBk.out W hb t.left hokt.left)
        have hBR := Lib.hid (fun W (hb : Below w.heap.size w W) => hBk.out W hb t.right hokt.right)
        have hBY := Lib.hid (fun W (hb : Below w.heap.size w W) => hBk.out W hb y hylt)
        have hRL := Lib.hid (fun W (hb : Below w.heap.size w W) => hRe.out W hb t.left hokt.left)
        have hRR := Lib.hid (fun W (hb : Below w.heap.size w W) => hRe.out W hb t.right hokt.right)
        have hRY := Lib.hid (fun W (hb : Below w.heap.size w W) => hRe.out W hb y hylt)
        have lL := hBl.out t.left
        have lR := hBl.out t.right
        have lY := hBl.out y
        generalize rbB R t.left = bl at *
        generalize rbB R t.right = br at *
        generalize rbB R y = bh at *
        generalize rbRed R t.left = rl at *
        generalize rbRed R t.right = rr at *
        generalize rbRed R y = ry at *
        have hbdH := Lib.hid hbd
        clear ht hy hbd hg hcl hokt
        go_wp2_with fail
        refine hg3.out.mono ?_
        rintro e w3 ⟨rfl, hb3⟩
        have hb3H := Lib.hid (hbwr.out.trans (hb3.mono hbwr.out.size))
        have hbr3 := Lib.hid (hbr.out.trans (hb3.mono hbr.out.size))
        have hz3 := hbr3.out.size
        have hz4 := hb3H.out.size
        clear hb3 hg3 hc0
        go_wp2_with fail
        obtain ⟨W3, hW⟩ : ∃ W, W = w3.alloc (Obj.cells #[.int .u64 (t.key : Nat), .int .u64 (t.val : Nat), .int .u64 (t.left : Nat), .int .u64 (t.right : Nat), .int .u64 (t.mark : Nat), .int .u64 (t.size : Nat)] 53) := ⟨_, rfl⟩
        obtain ⟨b3, hb⟩ : ∃ b, b = w3.heap.size := ⟨_, rfl⟩
        have hX3 : Hid (Box W3 b3 53 [.int .u64 (t.key : Nat), .int .u64 (t.val : Nat), .int .u64 (t.left : Nat), .int .u64 (t.right : Nat), .int .u64 (t.mark : Nat), .int .u64 (t.size : Nat)]) := Lib.hid (by rw [hW, hb]; exact Box.new w3 53 [.int .u64 (t.key : Nat), .int .u64 (t.val : Nat), .int .u64 (t.left : Nat), .int .u64 (t.right : Nat), .int .u64 (t.mark : Nat), .int .u64 (t.size : Nat)])
        have hB3 : Hid (Below w.heap.size w W3) := Lib.hid (by rw [hW]; exact hb3H.out.alloc hz4 _)
        have hR3 : Hid (Below w2.heap.size w2 W3) := Lib.hid (by rw [hW]; exact hbr3.out.alloc hz3 _)
        rw [← hW, ← hb]
        clear hW hb hz3 hz4 hb3H hbr3
        have c2 := hX3.out.at' (i := 2) rfl
        have c3 := hX3.out.at' (i := 3) rfl
        go_wp2_with fail
        refine (hBL.out _ hB3.out).mono ?_
        rintro e W4 ⟨rfl, hb⟩
        have hB4H := Lib.hid (hB3.out.trans (hb.mono hB3.out.size))
        have hR4H := Lib.hid (hR3.out.trans (hb.mono hR3.out.size))
        have hX4H := Lib.hid (hX3.out.below hb)
        clear hb hB3 hR3 hX3 c2 c3
        have c2 := hX4H.out.at' (i := 2) rfl
        have c3 := hX4H.out.at' (i := 3) rfl
        cases ry with
        | false =>
          go_wp2_with fail
          refine (hRY.out _ hB4H.out).mono ?_
          rintro e W5 ⟨rfl, hb⟩
          have hB5H := Lib.hid (hB4H.out.trans (hb.mono hB4H.out.size))
          have hR5H := Lib.hid (hR4H.out.trans (hb.mono hR4H.out.size))
          have hX5H := Lib.hid (hX4H.out.below hb)
          clear hb hB4H hR4H hX4H c2 c3
          have c2 := hX5H.out.at' (i := 2) rfl
          have c3 := hX5H.out.at' (i := 3) rfl
          go_wp2_with fail
          refine (hBR.out _ hB5H.out).mono ?_
          rintro e W6 ⟨rfl, hb⟩
          have hB6H := Lib.hid (hB5H.out.trans (hb.mono hB5H.out.size))
          have hR6H := Lib.hid (hR5H.out.trans (hb.mono hR5H.out.size))
          have hX6H := Lib.hid (hX5H.out.below hb)
          clear hb hB5H hR5H hX5H c2 c3
          have c2 := hX6H.out.at' (i := 2) rfl
          have c3 := hX6H.out.at' (i := 3) rfl
          by_cases q1 : br = bl
          · have d1 : ((br : Int) != (bl : Int)) = false := by simp; omega
            go_wp2_with fail
            refine (hBY.out _ hB6H.out).mono ?_
            rintro e W7 ⟨rfl, hb⟩
            have hB7H := Lib.hid (hB6H.out.trans (hb.mono hB6H.out.size))
            have hR7H := Lib.hid (hR6H.out.trans (hb.mono hR6H.out.size))
            have hX7H := Lib.hid (hX6H.out.below hb)
            clear hb hB6H hR6H hX6H c2 c3
            have c2 := hX7H.out.at' (i := 2) rfl
            have c3 := hX7H.out.at' (i := 3) rfl
            by_cases q2 : bh = bl + 1
            · have d2 : ((bh : Int) != ((bl : Int) + 1)) = false := by simp; omega
              go_wp2_with fail
              refine (hRY.out _ hB7H.out).mono ?_
              rintro e W8 ⟨rfl, hb⟩
              have hB8H := Lib.hid (hB7H.out.trans (hb.mono hB7H.out.size))
              have hR8H := Lib.hid (hR7H.out.trans (hb.mono hR7H.out.size))
              have hX8H := Lib.hid (hX7H.out.below hb)
              clear hb hB7H hR7H hX7H c2 c3
              have c2 := hX8H.out.at' (i := 2) rfl
              have c3 := hX8H.out.at' (i := 3) rfl
              have hfin := Lib.hid (hnx.out.trans (show rbBad R y = false by rw [hbdH.out]; simp [q1, q2]))
              have hRf := Lib.hid hR8H.out
              clear hall hnx c2 c3 hX8H hR8H
              go_wp2
              go_roundw
              case rel => exact ⟨k + 1, by omega, by go_num, hRf, hfin⟩
              case measure => simp [intOf]; omega
            · have d2 : ((bh : Int) != ((bl : Int) + 1)) = true := by simp; omega
              have hfin := Lib.hid (hall.out (by rw [hbdH.out]; simp [q2]))
              clear hall hnx c2 c3
              go_wp2
              go_ret
              rw [hvH.out, if_pos hfin.out]
              exact ⟨rfl, hB7H.out⟩
          · have d1 : ((br : Int) != (bl : Int)) = true := by simp; omega
            have hfin := Lib.hid (hall.out (by rw [hbdH.out]; simp [q1]))
            clear hall hnx c2 c3
            go_wp2
            go_ret
            rw [hvH.out, if_pos hfin.out]
            exact ⟨rfl, hB6H.out⟩
        | true =>
          go_wp2_with fail
          refine (hRY.out _ hB4H.out).mono ?_
          rintro e W5 ⟨rfl, hb⟩
          have hB5H := Lib.hid (hB4H.out.trans (hb.mono hB4H.out.size))
          have hR5H := Lib.hid (hR4H.out.trans (hb.mono hR4H.out.size))
          have hX5H := Lib.hid (hX4H.out.below hb)
          clear hb hB4H hR4H hX4H c2 c3
          have c2 := hX5H.out.at' (i := 2) rfl
          have c3 := hX5H.out.at' (i := 3) rfl
          go_wp2_with fail
          refine (hBR.out _ hB5H.out).mono ?_
          rintro e W6 ⟨rfl, hb⟩
          have hB6H := Lib.hid (hB5H.out.trans (hb.mono hB5H.out.size))
          have hR6H := Lib.hid (hR5H.out.trans (hb.mono hR5H.out.size))
          have hX6H := Lib.hid (hX5H.out.below hb)
          clear hb hB5H hR5H hX5H c2 c3
          have c2 := hX6H.out.at' (i := 2) rfl
          have c3 := hX6H.out.at' (i := 3) rfl
          by_cases q1 : br = bl
          · have d1 : ((br : Int) != (bl : Int)) = false := by simp; omega
            go_wp2_with fail
            refine (hBY.out _ hB6H.out).mono ?_
            rintro e W7 ⟨rfl, hb⟩
            have hB7H := Lib.hid (hB6H.out.trans (hb.mono hB6H.out.size))
            have hR7H := Lib.hid (hR6H.out.trans (hb.mono hR6H.out.size))
            have hX7H := Lib.hid (hX6H.out.below hb)
            clear hb hB6H hR6H hX6H c2 c3
            have c2 := hX7H.out.at' (i := 2) rfl
            have c3 := hX7H.out.at' (i := 3) rfl
            by_cases q2 : bh = bl
            · have d2 : ((bh : Int) != (bl : Int)) = false := by simp; omega
              go_wp2_with fail
              refine (hRY.out _ hB7H.out).mono ?_
              rintro e W8 ⟨rfl, hb⟩
              have hB8H := Lib.hid (hB7H.out.trans (hb.mono hB7H.out.size))
              have hR8H := Lib.hid (hR7H.out.trans (hb.mono hR7H.out.size))
              have hX8H := Lib.hid (hX7H.out.below hb)
              clear hb hB7H hR7H hX7H c2 c3
              have c2 := hX8H.out.at' (i := 2) rfl
              have c3 := hX8H.out.at' (i := 3) rfl
              cases rl with
              | true =>
                go_wp2_with fail
                refine (hRL.out _ hB8H.out).mono ?_
                rintro e W9 ⟨rfl, hb⟩
                have hB9H := Lib.hid (hB8H.out.trans (hb.mono hB8H.out.size))
                have hR9H := Lib.hid (hR8H.out.trans (hb.mono hR8H.out.size))
                have hX9H := Lib.hid (hX8H.out.below hb)
                clear hb hB8H hR8H hX8H c2 c3
                have c2 := hX9H.out.at' (i := 2) rfl
                have c3 := hX9H.out.at' (i := 3) rfl
                have hfin := Lib.hid (hall.out (by rw [hbdH.out]; simp))
                clear hall hnx c2 c3
                go_wp2
                go_ret
                rw [hvH.out, if_pos hfin.out]
                exact ⟨rfl, hB9H.out⟩
              | false =>
                go_wp2_with fail
                refine (hRL.out _ hB8H.out).mono ?_
                rintro e W9 ⟨rfl, hb⟩
                have hB9H := Lib.hid (hB8H.out.trans (hb.mono hB8H.out.size))
                have hR9H := Lib.hid (hR8H.out.trans (hb.mono hR8H.out.size))
                have hX9H := Lib.hid (hX8H.out.below hb)
                clear hb hB8H hR8H hX8H c2 c3
                have c2 := hX9H.out.at' (i := 2) rfl
                have c3 := hX9H.out.at' (i := 3) rfl
                cases rr with
                | true =>
                  go_wp2_with fail
                  refine (hRR.out _ hB9H.out).mono ?_
                  rintro e W10 ⟨rfl, hb⟩
                  have hB10H := Lib.hid (hB9H.out.trans (hb.mono hB9H.out.size))
                  have hR10H := Lib.hid (hR9H.out.trans (hb.mono hR9H.out.size))
                  have hX10H := Lib.hid (hX9H.out.below hb)
                  clear hb hB9H hR9H hX9H c2 c3
                  have c2 := hX10H.out.at' (i := 2) rfl
                  have c3 := hX10H.out.at' (i := 3) rfl
                  have hfin := Lib.hid (hall.out (by rw [hbdH.out]; simp))
                  clear hall hnx c2 c3
                  go_wp2
                  go_ret
                  rw [hvH.out, if_pos hfin.out]
                  exact ⟨rfl, hB10H.out⟩
                | false =>
                  go_wp2_with fail
                  refine (hRR.out _ hB9H.out).mono ?_
                  rintro e W10 ⟨rfl, hb⟩
                  have hB10H := Lib.hid (hB9H.out.trans (hb.mono hB9H.out.size))
                  have hR10H := Lib.hid (hR9H.out.trans (hb.mono hR9H.out.size))
                  have hX10H := Lib.hid (hX9H.out.below hb)
                  clear hb hB9H hR9H hX9H c2 c3
                  have c2 := hX10H.out.at' (i := 2) rfl
                  have c3 := hX10H.out.at' (i := 3) rfl
                  have hfin := Lib.hid (hnx.out.trans (show rbBad R y = false by rw [hbdH.out]; simp [q1, q2]))
                  have hRf := Lib.hid hR10H.out
                  clear hall hnx c2 c3 hX10H hR10H
                  go_wp2
                  go_roundw
                  case rel => exact ⟨k + 1, by omega, by go_num, hRf, hfin⟩
                  case measure => simp [intOf]; omega
            · have d2 : ((bh : Int) != (bl : Int)) = true := by simp; omega
              have hfin := Lib.hid (hall.out (by rw [hbdH.out]; simp [q2]))
              clear hall hnx c2 c3
              go_wp2
              go_ret
              rw [hvH.out, if_pos hfin.out]
              exact ⟨rfl, hB7H.out⟩
          · have d1 : ((br : Int) != (bl : Int)) = true := by simp; omega
            have hfin := Lib.hid (hall.out (by rw [hbdH.out]; simp [q1]))
            clear hall hnx c2 c3
            go_wp2
            go_ret
            rw [hvH.out, if_pos hfin.out]
            exact ⟨rfl, hB6H.out⟩
      · obtain rfl : k = L.length := by omega
        have hfin : Hid (L.any (rbBad R) = false) := Lib.hid (by have := hpre.out; rw [List.take_length] at this; exact this)
        go_wp2
        go_ret
        rw [hvH.out, if_neg (by rw [hfin.out]; simp)]
        exact ⟨rfl, hb2H.out.trans (hbr.out.mono hb2H.out.size)⟩
  · have hc8 : c = 8 := by omega
    have dc : ((c : Int) != 0) = true := by rw [hc8]; rfl
    rw [if_pos hc0] at hv
    have hvH := Lib.hid hv
    clear hv hc0 hc9 hc8 h hsh
    go_enter Tryz.func21, Tryz.ntmps21
    go_wp2_with fail
    refine hCkH.out.mono ?_
    rintro e w1 ⟨rfl, hb1⟩
    have hb1H := Lib.hid hb1
    clear hb1 hCkH
    go_wp2
    go_ret
    rw [hvH.out]
    exact ⟨rfl, hb1H.out⟩
end
end Go.Proofs.YtjpmlneihbckpaaGreatDoor
/- redblack.Join of trees, Check, Black, as contracts. -/
set_option linter.unusedVariables false
set_option linter.unusedSimpArgs false
namespace Go.Proofs.YtjpmlneihbckpaaGreatDoor
open Go.RowKit Go.Shelf
section
variable {w w' : World} {s : Nat} {F : Nat → Prop} {R : Nat → Option (List Nat)} {H : List Nat} {P q most last G : Nat}
theorem rbJoined_at (h : StoreIs w s F R H P q most last G) {l r : BT} {x kx vx m : Nat} {k v : ByteArray} {a b : BT} (h0 : R 0 = none) (hl : l.At R) (hr : r.At R) (al : l.RB) (ar : r.RB) (hm : (BT.node x kx vx m k v a b).At R)
    (hn : (BT.node x kx vx 0 k v l r).hs.Nodup) (sz : l.size + r.size ≤ 100) :
    Calls Tryz.prog 24 #[.pointer (some ⟨s, 0, none⟩), .int .u64 (l.root : Nat), .int .u64 (x : Nat), .int .u64 (r.root : Nat)] w fun e w' => ∃ (t : BT) (R' : Nat → Option (List Nat)), e = .returned (.tuple #[.int .u64 (t.root : Nat), .int .i64 0]) ∧
      t.At R' ∧ BT.Sim (.node x kx vx 0 k v l r) t ∧ t.RB ∧ (∀ z, z ∉ (BT.node x kx vx 0 k v l r).nodes → R' z = R z) ∧ KeepsN R R' ∧ ((max l.bh r.bh ≤ t.bh ∧ t.bh ≤ max l.bh r.bh + 1) ∧ (l.bh = r.bh → t = .node x kx vx (if !l.red && !r.red then 2 * l.bh + 1 else 2 * l.bh + 2) k v l r)) ∧ StoreIs w' s F R' H P q most last G ∧ Turn w F w' F := by
  obtain ⟨n, hrd, _⟩ := h.rd
  have hj := rbTop_at h l.root x r.root (BT.root_lt hl hrd) (hrd.u64 hm.2.1).1 (BT.root_lt hr hrd)
  have hk := rbJ_keeps R l.root x r.root
  obtain ⟨t, o, t3, t4, t5, t6⟩ := rbJ_bt h0 hl hr al ar hm hn (by omega)
  generalize rbJ R l.root x r.root = p at *
  obtain ⟨R', y, er⟩ := p
  simp only at hj hk o t3
  refine hj.mono fun e w' ⟨he, hS, hT⟩ => ⟨t, R', ?_, o.at', o.sim, o.rb, o.frame, hk, ⟨⟨t4, t5⟩, t6⟩, hS, hT⟩
  rw [he, o.root, t3]
  rfl
/-- a right red-black tree is told right -/
theorem rbGood {R : Nat → Option (List Nat)} (h0 : R 0 = none) : ∀ (t : BT), t.At R → t.RB → ∀ x ∈ t.nodes, rbBad R x = false
  | .nil, _, _, x, hx => by simp [BT.nodes] at hx
  | .node y kx vx m k v l r, ht, ha, x, hx => by
    have hl := ht.2.2.2.2.2.2.1
    have hr := ht.2.2.2.2.2.2.2
    obtain ⟨a1, a2, al, ar⟩ := ha
    simp only [BT.nodes, List.mem_append, List.mem_cons] at hx
    rcases hx with hx | hx | hx
    · exact rbGood h0 l hl al x hx
    · subst hx
      have g := (nodeR_at ht.2.1).2
      obtain ⟨l1, l2⟩ := BT.rbB_at hl h0
      obtain ⟨r1, r2⟩ := BT.rbB_at hr h0
      have m1 : rbB R x = m / 2 := by unfold rbB; rw [g]
      have m2 : rbRed R x = (m % 2 == 1) := by unfold rbRed; rw [g]
      have b1 : rbBad1 R x = false := by unfold rbBad1; rw [g, l1, r1, a2]; exact bne_self_eq_false _
      have b2 : rbBad2 R x = false := by
        unfold rbBad2
        rw [g, l1, m1, m2]
        rcases a1 with e | ⟨e, _, _⟩
        · rw [e, show (2 * l.bh + 2) / 2 = l.bh + 1 by omega, show (2 * l.bh + 2) % 2 = 0 by omega]
          exact bne_self_eq_false _
        · rw [e, show (2 * l.bh + 1) / 2 = l.bh by omega, show (2 * l.bh + 1) % 2 = 1 by omega]
          exact bne_self_eq_false _
      have b3 : rbBad3 R x = false := by
        unfold rbBad3
        rw [g, l2, r2, m2]
        rcases a1 with e | ⟨e, e1, e2⟩
        · rw [e, show (2 * l.bh + 2) % 2 = 0 by omega]
          rfl
        · rw [e1, e2]
          simp
      unfold rbBad
      rw [b1, b2, b3]
      rfl
    · exact rbGood h0 r hr ar x hx
theorem trbCheck_at {N n : Nat} {t : BT} {l : List Pr} (h : TreeR N w s R n t l) (ha : t.RB) : Calls Tryz.prog 21 #[.pointer (some ⟨s, 0, none⟩), .int .u64 (t.root : Nat)] w fun e w' => e = .returned (.int .i64 0) ∧ Below w.heap.size w w' := by
  have h1 := h.rd.le
  have h2 := h.sz
  have hf := rbCheck_at h.rd h.sh t.root h.root_lt
  have hz : rcheckR R n t.root = 0 := by
    unfold rcheckR
    rw [BT.check_at h.at' (by rw [h.prs]; exact h.ris) h.nod (n := n) (by omega) (by omega), BT.inR_at h.at' (n := n) (by omega)]
    rw [if_neg (by simp), if_neg]
    rw [List.any_eq_true]
    rintro ⟨x, hx, hb⟩
    rw [rbGood h.z t h.at' ha x hx] at hb
    cases hb
  rw [hz] at hf
  exact hf
theorem trbBlack_at {N n : Nat} {t : BT} (h : Rd N w s R n) (h0 : R 0 = none) (ht : t.At R) : Calls Tryz.prog 20 #[.pointer (some ⟨s, 0, none⟩), .int .u64 (t.root : Nat)] w fun e w' => e = .returned (.tuple #[.int .i64 (t.bh : Nat), .bool (!t.red)]) ∧ Below w.heap.size w w' := by
  have hf := tblack_at h t.root (BT.root_lt ht h)
  rw [(BT.rbB_at ht h0).1, (BT.rbB_at ht h0).2] at hf
  exact hf
end
end Go.Proofs.YtjpmlneihbckpaaGreatDoor
/- What leaf leaves. -/
set_option linter.unusedVariables false
set_option linter.unusedSimpArgs false
namespace Go.Proofs.YtjpmlneihbckpaaGreatDoor
open Go.RowKit Go.Shelf
/-- what leaf leaves: a node of a pair, without sides -/
def LeafPost (w : World) (s : Nat) (F : Nat → Prop) (R : Nat → Option (List Nat)) (H : List Nat) (P q most last G m : Nat) (p : Pr) (e : Ending) (w' : World) : Prop :=
  ∃ x kx vx F' R' H', e = .returned (.int .u64 (x : Nat)) ∧ GrowOut R R' (.node x kx vx m p.1 p.2 .nil .nil) ∧ StoreIs w' s F' R' H' (P + 9) q most last (G + 3) ∧ H'.length = H.length + 3 ∧ Turn w F w' F' ∧ x < 18446744073709551616
end Go.Proofs.YtjpmlneihbckpaaGreatDoor
/- loftlaw13.leaf: the walk. -/
set_option linter.unusedVariables false
set_option linter.unusedSimpArgs false
namespace Go.Proofs.YtjpmlneihbckpaaGreatDoor
open Go.RowKit Go.Shelf
set_option maxHeartbeats 2000000 in
set_option maxRecDepth 100000 in
theorem leaf13_at {w : World} {s : Nat} {F : Nat → Prop} {R : Nat → Option (List Nat)} {H : List Nat} {P q most last G : Nat} (h : StoreIs w s F R H P q most last G) (p : Pr) (h1 : p.1.size ≤ 1000) (h2 : p.2.size ≤ 1000)
    (hq : (P + 9) * 64 ≤ q) (hmost : H.length + 3 ≤ most) (hlast : G + 3 ≤ last) :
    Calls Tryz.prog 26 #[.pointer (some ⟨s, 0, none⟩), .agg #[.string p.1, .string p.2]] w (LeafPost w s F R H P q most last G 1 p) := by
  obtain ⟨W0, hW0⟩ : ∃ W, W = w.alloc (Obj.cells #[Value.string p.1, Value.string p.2] 46) := ⟨_, rfl⟩
  have hbx := Box.new w 46 [Value.string p.1, Value.string p.2]
  have hb0 : Below w.heap.size w W0 := by rw [hW0]; exact (Below.refl _ w).alloc (Nat.le_refl _) _
  rw [← hW0] at hbx
  have hF : ¬ F w.heap.size := fun hf => by have := h.lt hf; omega
  have hPut1 := Lib.hid (bput_at (h.below hb0) p.1 h1)
  have hw1 := words_le h1
  have hw2 := words_le h2
  have hg1 := pgsN_le (n := (Tx.wordsL p.1.data.toList).length + 2) (by omega)
  have hg2 := pgsN_le (n := (Tx.wordsL p.2.data.toList).length + 2) (by omega)
  have c0 := hbx.at' (i := 0) rfl
  have hbxH := Lib.hid hbx
  have hb0H := Lib.hid hb0
  have hW0H := Lib.hid hW0
  clear h hb0 hw1 hw2 hW0 hbx
  go_enter Tryz.func26, Tryz.ntmps26
  go_wp2_with fail
  rw [← hW0H.out]
  refine hPut1.out.mono ?_
  rintro e w1 (⟨x1, F1, n1, x10, x164, rfl, hS1, hT1⟩ | ⟨er, F1, rfl, her, hS1, hT1⟩)
  · have hPut2 := Lib.hid (bput_at hS1 p.2 h2)
    have hbx1 := Lib.hid (hbxH.out.turn hT1 hF)
    have c1 := hbx1.out.at' (i := 1) rfl
    have hF1 : ¬ F1 w.heap.size := hT1.not hbxH.out.lt hF
    have n1H := Lib.hid n1
    have hT1H := Lib.hid ((Turn.below (F := F) hb0H.out).trans hT1)
    clear hS1 hT1 n1 hPut1 c0
    go_wp2_with fail
    refine hPut2.out.mono ?_
    rintro e w2 (⟨x2, F2, n2, x20, x264, rfl, hS2, hT2⟩ | ⟨er, F2, rfl, her, hS2, hT2⟩)
    · have hMk := nmake_at hS2 ⟨x1, x2, 0, 0, 1, 1⟩ ⟨x164, x264, by simp, by simp, by simp, by simp⟩
      unfold Nd.v at hMk
      have hMkH := Lib.hid hMk
      have n2H := Lib.hid n2
      have hT2H := Lib.hid (hT1H.out.trans hT2)
      clear hS2 hT2 n2 hPut2 hMk c1
      go_wp2_with fail
      refine hMkH.out.mono ?_
      rintro e w5 (⟨x5, F5, n5, x50, x564, rfl, hS5, hT5⟩ | ⟨er, F5, rfl, her, hS5, hT5⟩)
      · have hfin : Hid (LeafPost w s F R H P q most last G 1 p (.returned (.int .u64 (x5 : Nat))) w5) := Lib.hid (by
          refine ⟨x5, x1, x2, F5, _, _, rfl, ?_, hS5.more ?_ ?_, ?_, hT2H.out.trans hT5, x564⟩
          · exact grow_plain n1H.out x10 n2H.out x20 (GrowOut.nil _) (GrowOut.nil _) n5 x50 h1 h2 1
          · have : pgsN ((Nd.ws ⟨x1, x2, 0, 0, 1, 1⟩).length + 2) = 1 := by simp [Nd.ws, pgsN]
            rw [this]
            omega
          · omega
          · simp only [List.length_cons])
        clear hS5 hT5 n5
        go_wp2
        go_ret
        exact hfin.out
      · have : pgsN ((Nd.ws ⟨x1, x2, 0, 0, 1, 1⟩).length + 2) = 1 := by simp [Nd.ws, pgsN]
        rw [this] at her
        exfalso; simp only [List.length_cons] at her; omega
    · exfalso; simp only [List.length_cons] at her; omega
  · exfalso; omega
end Go.Proofs.YtjpmlneihbckpaaGreatDoor
/- What built leaves. -/
set_option linter.unusedVariables false
set_option linter.unusedSimpArgs false
namespace Go.Proofs.YtjpmlneihbckpaaGreatDoor
open Go.RowKit Go.Shelf
/-- a tree of a kind, of pairs -/
def BuiltPost (Q : BT → Prop) (w : World) (s : Nat) (F : Nat → Prop) (R : Nat → Option (List Nat)) (H : List Nat) (P q most last G : Nat) (l : List Pr) (e : Ending) (w' : World) : Prop :=
  ∃ t F' R' H', e = .returned (.int .u64 (t.root : Nat)) ∧ t.prs = l ∧ Q t ∧ GrowOut R R' t ∧ StoreIs w' s F' R' H' (P + 9 * l.length) q most last (G + 3 * l.length) ∧ H'.length = H.length + 3 * l.length ∧ Turn w F w' F'
end Go.Proofs.YtjpmlneihbckpaaGreatDoor
/- loftlaw13.built: the walk. -/
set_option linter.unusedVariables false
set_option linter.unusedSimpArgs false
namespace Go.Proofs.YtjpmlneihbckpaaGreatDoor
open Go.RowKit Go.Shelf
set_option maxHeartbeats 4000000 in
set_option maxRecDepth 100000 in
theorem built13_at {w : World} {s : Nat} {F : Nat → Prop} {R : Nat → Option (List Nat)} {H : List Nat} {P q most last G c : Nat} {A : Option Addr} {l : List Pr} (h : StoreIs w s F R H P q most last G) (z : R 0 = none) (hc : CellsF w F A (prsV l)) (hlen : l.length ≤ 60) (hs : ∀ p ∈ l, p.1.size ≤ 1000 ∧ p.2.size ≤ 1000)
    (hq : (P + 9 * l.length) * 64 ≤ q) (hmost : H.length + 3 * l.length ≤ most) (hlast : G + 3 * l.length ≤ last) (back : Bool) :
    Calls Tryz.prog 19 #[.pointer (some ⟨s, 0, none⟩), .slice A l.length c, .bool back] w (BuiltPost BT.RB w s F R H P q most last G l) := by
  have hS := Lib.hid h
  have h0 := Lib.hid z
  have hA := Lib.hid hc
  have hsz := Lib.hid hs
  clear h z hc hs
  cases back with
  | false =>
    go_enter Tryz.func19, Tryz.ntmps19
    go_wp2_with fail
    go_loopw [7, 8] (fun rv iv wr => ∃ (k : Nat) (t : BT) (F' : Nat → Prop) (R' : Nat → Option (List Nat)) (H' : List Nat), k ≤ l.length ∧ iv = .int .i64 k ∧ rv = .int .u64 (t.root : Nat) ∧ Hid (t.prs = l.take k) ∧ Hid (t.RB) ∧ Hid (GrowOut R R' t) ∧ Hid (StoreIs wr s F' R' H' (P + 9 * k) q most last (G + 3 * k)) ∧ Hid (H'.length = H.length + 3 * k) ∧ Hid (Turn w F wr F')) (fun _ iv _ => l.length - (intOf iv).toNat)
    case atStart => exact ⟨0, .nil, F, R, H, by omega, rfl, rfl, Lib.hid (by simp [BT.prs]), Lib.hid trivial, Lib.hid (GrowOut.nil R), Lib.hid (by simpa using hS.out), Lib.hid (by simp), Lib.hid (Turn.refl _ _)⟩
    case round =>
      obtain ⟨k, t, F', R', H', hk, rfl, rfl, hpr, hav, hgo, hS', hH', hT'⟩ := hrel
      by_cases hlt : k < l.length
      · obtain ⟨nr, hrd, _⟩ := hS'.out.rd
        have hrt := BT.root_lt hgo.out.at' hrd
        have hcf := hA.out.turn hT'.out
        obtain ⟨bb, oo, hAs, q1, q2⟩ := hcf.pairs hlt
        have hsz := hsz.out _ (List.getElem_mem hlt)
        obtain ⟨p, hp⟩ : ∃ p, l[k] = p := ⟨_, rfl⟩
        have hpk := Lib.hid hp
        rw [hp] at q1 q2 hsz
        have hHl := hH'.out
        have hLf := leaf13_at hS'.out p hsz.1 hsz.2 (by omega) (by omega) (by omega)
        have hLfH := Lib.hid hLf
        have hts : t.size = k := by rw [← BT.prs_len, hpr.out, List.length_take]; omega
        have htsH := Lib.hid hts
        subst hAs
        clear hrd hcf hp hHl hLf hts
        go_wp2_with fail
        refine hLfH.out.mono ?_
        rintro e w2 ⟨x, kx, vx, F2, R2, H2, rfl, gm, hS2, hH2, hT2, hx64⟩
        have h02 : R2 0 = none := gm.zero (hgo.out.zero h0.out)
        obtain ⟨g1, g2, g3, _, _⟩ := grow_three (m0 := 0) (hgo.out : GrowOut R R' t) (GrowOut.nil _ : GrowOut R' R' .nil) gm
        have hJ := rbJoined_at hS2 h02 g1 g2 hav.out trivial gm.at' g3 (by have := htsH.out; show _ ≤ _; simp only [BT.size]; omega)
        have hJH := Lib.hid hJ
        have gmH := Lib.hid gm
        have hH2H := Lib.hid hH2
        have hT2H := Lib.hid (hT'.out.trans hT2)
        clear gm hS2 hT2 hH2 g1 g2 g3 h02 hJ hLfH q1 q2
        go_wp2_with fail
        refine hJH.out.mono ?_
        rintro e w3 ⟨t', R3, rfl, at', sim, ok, frame, _, _, hS3, hT3⟩
        have hprs : t'.prs = l.take (k + 1) := by rw [sim.prs, List.take_succ_eq_append_getElem hlt, ← hpr.out, hpk.out]; rfl
        have hgo3 : GrowOut R R3 t' := GrowOut.joined (m0 := 0) (hgo.out : GrowOut R R' t) (GrowOut.nil _ : GrowOut R' R' .nil) gmH.out at' sim frame
        have hprsH := Lib.hid hprs
        have hgo3H := Lib.hid hgo3
        have hokH := Lib.hid ok
        have hS3H : Hid (StoreIs w3 s F2 R3 H2 (P + 9 * (k + 1)) q most last (G + 3 * (k + 1))) := Lib.hid (hS3.more (by omega) (by omega))
        have hH3H : Hid (H2.length = H.length + 3 * (k + 1)) := Lib.hid (by rw [hH2H.out, hH'.out]; omega)
        have hT3H := Lib.hid (hT2H.out.trans hT3)
        clear hprs hgo3 ok hS3 hT3 at' sim frame hJH hH2H
        go_wp2
        go_roundw
        case rel => exact ⟨k + 1, t', F2, R3, H2, by omega, by go_num, rfl, hprsH, hokH, hgo3H, hS3H, hH3H, hT3H⟩
        case measure => simp [intOf]; omega
      · obtain rfl : k = l.length := by omega
        have hfin : Hid (BuiltPost BT.RB w s F R H P q most last G l (.returned (.int .u64 (t.root : Nat))) wr) := Lib.hid ⟨t, F', R', H', rfl, by rw [hpr.out, List.take_length], hav.out, hgo.out, hS'.out, hH'.out, hT'.out⟩
        clear hpr hav hgo hS' hH' hT'
        go_wp2
        go_ret
        exact hfin.out
  | true =>
    go_enter Tryz.func19, Tryz.ntmps19
    go_wp2_with fail
    go_loopw [7, 8] (fun rv iv wr => ∃ (k : Nat) (t : BT) (F' : Nat → Prop) (R' : Nat → Option (List Nat)) (H' : List Nat), k ≤ l.length ∧ iv = .int .i64 k ∧ rv = .int .u64 (t.root : Nat) ∧ Hid (t.prs = l.drop (l.length - k)) ∧ Hid (t.RB) ∧ Hid (GrowOut R R' t) ∧ Hid (StoreIs wr s F' R' H' (P + 9 * k) q most last (G + 3 * k)) ∧ Hid (H'.length = H.length + 3 * k) ∧ Hid (Turn w F wr F')) (fun _ iv _ => l.length - (intOf iv).toNat)
    case atStart => exact ⟨0, .nil, F, R, H, by omega, rfl, rfl, Lib.hid (by simp [BT.prs]), Lib.hid trivial, Lib.hid (GrowOut.nil R), Lib.hid (by simpa using hS.out), Lib.hid (by simp), Lib.hid (Turn.refl _ _)⟩
    case round =>
      obtain ⟨k, t, F', R', H', hk, rfl, rfl, hpr, hav, hgo, hS', hH', hT'⟩ := hrel
      by_cases hlt : k < l.length
      · obtain ⟨nr, hrd, _⟩ := hS'.out.rd
        have hrt := BT.root_lt hgo.out.at' hrd
        have hcf := hA.out.turn hT'.out
        have hlt2 : l.length - 1 - k < l.length := by omega
        obtain ⟨bb, oo, hAs, q1, q2⟩ := hcf.pairs hlt2
        have hsz := hsz.out _ (List.getElem_mem hlt2)
        obtain ⟨p, hp⟩ : ∃ p, l[l.length - 1 - k] = p := ⟨_, rfl⟩
        have hpk := Lib.hid hp
        rw [hp] at q1 q2 hsz
        have hHl := hH'.out
        have hLf := leaf13_at hS'.out p hsz.1 hsz.2 (by omega) (by omega) (by omega)
        have hLfH := Lib.hid hLf
        have hts : t.size = k := by rw [← BT.prs_len, hpr.out, List.length_drop]; omega
        have htsH := Lib.hid hts
        subst hAs
        clear hrd hcf hp hHl hLf hts
        go_wp2_with fail
        refine hLfH.out.mono ?_
        rintro e w2 ⟨x, kx, vx, F2, R2, H2, rfl, gm, hS2, hH2, hT2, hx64⟩
        have h02 : R2 0 = none := gm.zero (hgo.out.zero h0.out)
        obtain ⟨g1, g2, g3, _, _⟩ := grow_three (m0 := 0) (GrowOut.nil _ : GrowOut R R .nil) (hgo.out : GrowOut R R' t) gm
        have hJ := rbJoined_at hS2 h02 g1 g2 trivial hav.out gm.at' g3 (by have := htsH.out; show _ ≤ _; simp only [BT.size]; omega)
        have hJH := Lib.hid hJ
        have gmH := Lib.hid gm
        have hH2H := Lib.hid hH2
        have hT2H := Lib.hid (hT'.out.trans hT2)
        clear gm hS2 hT2 hH2 g1 g2 g3 h02 hJ hLfH q1 q2
        go_wp2_with fail
        refine hJH.out.mono ?_
        rintro e w3 ⟨t', R3, rfl, at', sim, ok, frame, _, _, hS3, hT3⟩
        have hprs : t'.prs = l.drop (l.length - (k + 1)) := by
            rw [sim.prs, show l.length - (k + 1) = l.length - 1 - k by omega, List.drop_eq_getElem_cons hlt2, show l.length - 1 - k + 1 = l.length - k by omega, ← hpr.out, hpk.out]; rfl
        have hgo3 : GrowOut R R3 t' := GrowOut.joined (m0 := 0) (GrowOut.nil _ : GrowOut R R .nil) (hgo.out : GrowOut R R' t) gmH.out at' sim frame
        have hprsH := Lib.hid hprs
        have hgo3H := Lib.hid hgo3
        have hokH := Lib.hid ok
        have hS3H : Hid (StoreIs w3 s F2 R3 H2 (P + 9 * (k + 1)) q most last (G + 3 * (k + 1))) := Lib.hid (hS3.more (by omega) (by omega))
        have hH3H : Hid (H2.length = H.length + 3 * (k + 1)) := Lib.hid (by rw [hH2H.out, hH'.out]; omega)
        have hT3H := Lib.hid (hT2H.out.trans hT3)
        clear hprs hgo3 ok hS3 hT3 at' sim frame hJH hH2H
        go_wp2
        go_roundw
        case rel => exact ⟨k + 1, t', F2, R3, H2, by omega, by go_num, rfl, hprsH, hokH, hgo3H, hS3H, hH3H, hT3H⟩
        case measure => simp [intOf]; omega
      · obtain rfl : k = l.length := by omega
        have hfin : Hid (BuiltPost BT.RB w s F R H P q most last G l (.returned (.int .u64 (t.root : Nat))) wr) := Lib.hid ⟨t, F', R', H', rfl, by rw [hpr.out, Nat.sub_self, List.drop_zero], hav.out, hgo.out, hS'.out, hH'.out, hT'.out⟩
        clear hpr hav hgo hS' hH' hT'
        go_wp2
        go_ret
        exact hfin.out
end Go.Proofs.YtjpmlneihbckpaaGreatDoor
/- What the walks of the laws of joins share: pairs a, b; a tree of one node; slices' cells taken and dropped. -/
set_option linter.unusedVariables false
set_option linter.unusedSimpArgs false
namespace Go.Proofs.YtjpmlneihbckpaaGreatDoor
open Go.RowKit Go.Shelf
def prA : Pr := (⟨#[97]⟩, ⟨#[]⟩)
def prB : Pr := (⟨#[98]⟩, ⟨#[]⟩)
theorem prAB_rise : Rising [prA, prB] := by unfold Rising; decide +kernel
theorem BT.sim_root {x kx vx m : Nat} {k v : ByteArray} {t : BT} (h : BT.Sim (.node x kx vx m k v .nil .nil) t) : t.root = x := by
  have hn : t.nodes = [x] := h.nodes
  rcases BT.root_nodes t with h0 | h0
  · cases t with
    | nil => cases hn
    | node y ky vy my k' v' l r =>
      have : y ∈ (BT.node y ky vy my k' v' l r).nodes := by simp [BT.nodes]
      rw [hn] at this
      exact List.mem_singleton.1 this
  · rw [hn] at h0
    simpa using h0
theorem CellsF.take' {w : World} {F : Nat → Prop} {A : Option Addr} {l : List Pr} (h : CellsF w F A (prsV l)) (k : Nat) : CellsF w F A (prsV (l.take k)) := by
  rw [prsV_take]
  exact h.take _
def dropA (A : Option Addr) (c k : Nat) : Option Addr := if c = k then A else Option.map (fun x => x.add (k * 2)) A
theorem CellsF.drop' {w : World} {F : Nat → Prop} {A : Option Addr} {l : List Pr} {k c : Nat} (h : CellsF w F A (prsV l)) (hk : k ≤ l.length) (hc : l.length ≤ c) : CellsF w F (dropA A c k) (prsV (l.drop k)) := by
  unfold dropA
  by_cases he : k = l.length
  · subst he; left; rw [List.drop_length]; rfl
  · rcases h with h | ⟨b, o, rfl, hb, hF, hcell⟩
    · have : l = [] := by
        cases l with
        | nil => rfl
        | cons p l => simp [prsV] at h
      subst this
      left; simp [prsV]
    · rw [if_neg (by omega)]
      refine .inr ⟨b, o + k * 2, ?_, hb, hF, fun j u hu => ?_⟩
      · show some ((⟨b, o, none⟩ : Addr).add (k * 2)) = _
        unfold Addr.add; split <;> simp_all
      · rw [Nat.add_assoc]
        refine hcell _ _ ?_
        rw [prsV_drop, List.getElem?_drop] at hu
        exact hu
end Go.Proofs.YtjpmlneihbckpaaGreatDoor
/- loftlaw13.awake. -/
set_option linter.unusedVariables false
set_option linter.unusedSimpArgs false
namespace Go.Proofs.YtjpmlneihbckpaaGreatDoor
open Go.RowKit Go.Shelf
set_option maxHeartbeats 4000000 in
set_option maxRecDepth 100000 in
theorem awake13_at {w : World} (hT : Tab w) : Calls Tryz.prog 16 #[] w fun e w' => e = .returned (.bool true) ∧ Below w.heap.size w w' := by
  have hN := Lib.hid (snew_at hT 262144 1000 4294967295 (by omega) (by omega) (by omega) (by omega) (by omega))
  clear hT
  go_enter Tryz.func16, Tryz.ntmps16
  go_wp2_with fail
  refine hN.out.mono ?_
  rintro e w1 ⟨s, F, rfl, hS, hs1, hF1, hb1⟩
  have hb1H := Lib.hid hb1
  have hF1H := Lib.hid hF1
  have hLf := leaf13_at hS prA (by decide) (by decide) (by omega) (by simp) (by omega)
  unfold prA at hLf
  have hLfH := Lib.hid hLf
  clear hb1 hF1 hS hLf hN
  go_wp2_with fail
  refine hLfH.out.mono ?_
  rintro e w2 ⟨x, kx, vx, F2, R2, H2, rfl, gm, hS2, hH2, hT2, hx64⟩
  have h02 : R2 0 = none := gm.zero rfl
  obtain ⟨g1, g2, g3, _, _⟩ := grow_three (m0 := 0) (GrowOut.nil _) (GrowOut.nil _) gm
  have hJ := rbJoined_at hS2 h02 g1 g2 trivial trivial gm.at' g3 (by simp [BT.size])
  rw [show ((BT.root .nil : Nat) : Int) = 0 from rfl] at hJ
  have hJH := Lib.hid hJ
  have gmH := Lib.hid gm
  have hH2H := Lib.hid hH2
  have hT2H := Lib.hid hT2
  clear gm hS2 hT2 hH2 g1 g2 g3 h02 hJ hLfH
  go_wp2_with fail
  refine hJH.out.mono ?_
  rintro e w3 ⟨t1, R3, rfl, at1, sim1, ok1, fr1, _, ⟨_, heq1⟩, hS3, hT3⟩
  have go1 : GrowOut _ R3 t1 := GrowOut.joined (m0 := 0) (GrowOut.nil _) (GrowOut.nil _) gmH.out at1 sim1 fr1
  have hrt := BT.sim_root sim1
  have hq1 := heq1 (by first | rfl | trivial)
  have b1 : t1.bh = 0 := by rw [hq1]; simp [BT.bh, BT.red, BT.mk]
  have r1 : t1.red = true := by rw [hq1]; simp [BT.bh, BT.red, BT.mk]
  obtain ⟨n3, hrd3, _⟩ := hS3.rd
  have hBk := trbBlack_at hrd3 (go1.zero rfl) at1
  rw [b1, r1, hrt] at hBk
  have hBkH := Lib.hid hBk
  have hLf := fun W (hb : Below w3.heap.size w3 W) => leaf13_at (hS3.below hb) prB (by decide) (by decide) (by omega) (by rw [hH2H.out]; simp) (by omega)
  unfold prB at hLf
  have hLfH := Lib.hid hLf
  have go1H := Lib.hid go1
  have ok1H := Lib.hid ok1
  have b1H := Lib.hid b1
  have r1H := Lib.hid r1
  have sim1H := Lib.hid sim1
  have hT3H := Lib.hid (hT2H.out.trans hT3)
  rw [hrt]
  have hrtH := Lib.hid hrt
  clear at1 sim1 ok1 fr1 heq1 hq1 b1 r1 hS3 hT3 go1 hLf hJH hrt hBk hrd3
  go_wp2_with fail
  refine hBkH.out.mono ?_
  rintro e w31 ⟨rfl, hb31⟩
  have hb31H := Lib.hid hb31
  have hLf2 := Lib.hid (hLfH.out _ hb31)
  clear hb31 hBkH hLfH
  go_wp2_with fail
  refine hLf2.out.mono ?_
  rintro e w4 ⟨y, ky, vy, F4, R4, H4, rfl, gn, hS4, hH4, hT4, hy64⟩
  have h04 : R4 0 = none := gn.zero (go1H.out.zero rfl)
  obtain ⟨g1, g2, g3, _, _⟩ := grow_three (m0 := 0) go1H.out (GrowOut.nil _) gn
  have sz1 : t1.size = 1 := by have := sim1H.out.size; rw [this]; rfl
  have hJ := rbJoined_at hS4 h04 g1 g2 ok1H.out trivial gn.at' g3 (by rw [sz1]; simp [BT.size])
  rw [show ((BT.root .nil : Nat) : Int) = 0 from rfl, hrtH.out] at hJ
  have hJH := Lib.hid hJ
  have gnH := Lib.hid gn
  have hT4H := Lib.hid ((hT3H.out.trans (Turn.below hb31H.out)).trans hT4)
  clear gn hS4 hT4 hH4 g1 g2 g3 h04 hJ hLf2
  go_wp2_with fail
  refine hJH.out.mono ?_
  rintro e w5 ⟨t2, R5, rfl, at2, sim2, ok2, fr2, _, ⟨_, heq2⟩, hS5, hT5⟩
  have go2 : GrowOut _ R5 t2 := GrowOut.joined (m0 := 0) go1H.out (GrowOut.nil _) gnH.out at2 sim2 fr2
  have hp1 : t1.prs = [prA] := sim1H.out.prs
  have hp2 : t2.prs = [prA, prB] := by rw [sim2.prs]; show t1.prs ++ _ = _; rw [hp1]; rfl
  have sz2 : t2.size = 2 := by rw [← BT.prs_len, hp2]; rfl
  have hb0 : t1.bh = (BT.nil).bh := by rw [b1H.out]; rfl
  have hq2 := heq2 hb0
  have b2 : t2.bh = 1 := by rw [hq2, r1H.out, b1H.out]; simp [BT.bh, BT.red, BT.mk]
  have r2 : t2.red = false := by rw [hq2, r1H.out, b1H.out]; simp [BT.bh, BT.red, BT.mk]
  have rt2 : t2.root = y := by rw [hq2]; rfl
  have hsh : Short R5 := go2.short (fun x ws e => by cases e)
  have h05 : R5 0 = none := go2.zero rfl
  obtain ⟨n5, hTR, _⟩ := treeIn hS5 hsh h05 at2 hp2 prAB_rise go2.nodup
  have hHt := trbBlack_at hTR.rd h05 at2
  rw [b2, r2, rt2] at hHt
  have hHtH := Lib.hid hHt
  have hCk := fun W (hb : Below w5.heap.size w5 W) => trbCheck_at (hTR.below hb) ok2
  rw [rt2] at hCk
  have hCkH := Lib.hid hCk
  rw [rt2]
  have hbw : Hid (Below w.heap.size w w5) := Lib.hid (hb1H.out.trans ((hT4H.out.trans hT5).to_below hb1H.out.size hF1H.out))
  clear at2 sim2 ok2 fr2 heq2 hq2 hS5 hT5 go2 hJH hHt hTR hp1 hp2 hCk rt2 hb0 b2 r2
  go_wp2_with fail
  refine hHtH.out.mono ?_
  rintro e w6 ⟨rfl, hb6⟩
  have hb6H := Lib.hid hb6
  clear hb6
  go_wp2_with fail
  refine (hCkH.out _ hb6H.out).mono ?_
  rintro e w7 ⟨rfl, hb7⟩
  have hb7H := Lib.hid (hbw.out.trans ((hb6H.out.trans (hb7.mono hb6H.out.size)).mono hbw.out.size))
  clear hb7
  go_wp2
  go_ret
  exact ⟨rfl, hb7H.out⟩
end Go.Proofs.YtjpmlneihbckpaaGreatDoor
/- loftlaw13.same: the walk. -/
set_option linter.unusedVariables false
set_option linter.unusedSimpArgs false
namespace Go.Proofs.YtjpmlneihbckpaaGreatDoor
open Go.RowKit Go.Shelf
set_option maxHeartbeats 2000000 in
set_option maxRecDepth 100000 in
theorem same13_at {w : World} {s N n c : Nat} {R : Nat → Option (List Nat)} {t : BT} {l : List Pr} {A : Option Addr} {F : Nat → Prop} (h : TreeR N w s R n t l) (hc : CellsF w F A (prsV l)) :
    Calls Tryz.prog 27 #[.pointer (some ⟨s, 0, none⟩), .int .u64 (t.root : Nat), .slice A l.length c] w fun e w' => e = .returned (.bool true) ∧ Below w.heap.size w w' := by
  have hLi := Lib.hid (tlist_at h)
  have hTR := Lib.hid h
  have hcf := Lib.hid hc
  have hle := h.le
  clear h hc
  go_enter Tryz.func27, Tryz.ntmps27
  go_wp2_with fail
  refine hLi.out.mono ?_
  rintro e w2 ⟨v, rfl, hro, hb2⟩
  obtain ⟨A2, cc, rfl⟩ := ownsRow_form hro
  have hnl := Lib.hid hTR.out.nodes_len
  have hcells : Hid (∀ i (hi : i < l.length) (hi2 : i < t.nodes.length), ∃ g, A2 = some ⟨g, 0, none⟩ ∧ ∀ W, Below w2.heap.size w2 W → W.cell? ⟨g, i, none⟩ = some (.int .u64 (t.nodes[i] : Nat))) := Lib.hid (fun i hi hi2 => by
    obtain ⟨g, cap, hv⟩ := row_pos hro (by omega)
    cases hv
    refine ⟨g, rfl, fun W hb => ?_⟩
    have h1 := hro.cells (g := g) rfl i (.int .u64 (t.nodes[i] : Nat)) (by rw [hsV, List.getElem?_map, List.getElem?_eq_getElem hi2]; rfl)
    rw [show (⟨g, 0, none⟩ : Addr).add i = ⟨g, i, none⟩ by unfold Addr.add; split <;> simp_all] at h1
    exact (hb.cell (p := ⟨g, i, none⟩) (cell_lt h1)).trans h1)
  have hTR2 := Lib.hid (hTR.out.below hb2)
  have hcf2 := Lib.hid (hcf.out.turn (Turn.below hb2))
  have hb2H := Lib.hid hb2
  clear hro hb2 hLi hcf hTR
  go_wp2_with fail
  go_loopw [8] (fun iv wr => ∃ k : Nat, k ≤ l.length ∧ iv = .int .i64 k ∧ Hid (Below w2.heap.size w2 wr)) (fun iv _ => l.length - (intOf iv).toNat)
  case atStart => exact ⟨0, by omega, rfl, Lib.hid (Below.refl _ _)⟩
  case round =>
    obtain ⟨k, hk, rfl, hb⟩ := hrel
    by_cases hlt : k < l.length
    · have hk2 : k < t.nodes.length := by rw [hnl.out]; exact hlt
      obtain ⟨g, hA2, hgc⟩ := hcells.out k hlt hk2
      have hP := fun W (hb : Below w2.heap.size w2 W) => tpair_at (hTR2.out.below hb) hlt hk2
      have hq := fun W (hb : Below w2.heap.size w2 W) => (hcf2.out.turn (Turn.below hb)).pairs hlt
      obtain ⟨x, hx⟩ : ∃ x, t.nodes[k] = x := ⟨_, rfl⟩
      obtain ⟨p, hp⟩ : ∃ p, l[k] = p := ⟨_, rfl⟩
      simp only [hx, hp] at hP hq hgc
      have hPH := Lib.hid hP
      have hqH := Lib.hid hq
      obtain ⟨b, o, hBs, _, _⟩ := hq wr hb.out
      have hc0 := hgc wr hb.out
      subst hA2 hBs
      clear hP hq hgc hx hp
      go_wp2_with fail
      refine (hPH.out wr hb.out).mono ?_
      rintro e w10 ⟨rfl, hb3⟩
      have hb3H := Lib.hid (hb.out.trans (hb3.mono hb.out.size))
      have hz3 := hb3H.out.size
      have hb4H := Lib.hid (hb3H.out.alloc hz3 (Obj.cells #[Value.string p.1, Value.string p.2] 46))
      have r3 : (w10.alloc (Obj.cells #[Value.string p.1, Value.string p.2] 46)).cell? ⟨w10.heap.size, 0, none⟩ = some (.string p.1) := by go_simp
      have r4 : (w10.alloc (Obj.cells #[Value.string p.1, Value.string p.2] 46)).cell? ⟨w10.heap.size, 1, none⟩ = some (.string p.2) := by go_simp
      obtain ⟨b', o', hBs, q3, q4⟩ := hqH.out _ hb4H.out
      cases hBs
      clear hb3 hc0
      go_wp2
      go_quiet (fail)
      go_wp2
      go_roundw
      case rel => exact ⟨k + 1, by omega, by go_num, Lib.hid (hb4H.out.trans ((Tx.drewN_below _ _).mono hb4H.out.size))⟩
      case measure => simp [intOf]; omega
    · obtain rfl : k = l.length := by omega
      go_wp2
      go_ret
      exact ⟨rfl, hb2H.out.trans (hb.out.mono hb2H.out.size)⟩
end Go.Proofs.YtjpmlneihbckpaaGreatDoor
/- loftref13: Least. -/
set_option linter.unusedVariables false
set_option linter.unusedSimpArgs false
namespace Go.Proofs.YtjpmlneihbckpaaGreatDoor
open Go.RowKit Go.Shelf
set_option maxRecDepth 100000 in
theorem rleast_at {n : Nat} (hn : n ≤ 6) (w : World) : Calls Tryz.prog 28 #[.int .i64 (n : Nat)] w fun e w' => e = .returned (.int .i64 ((2 ^ n - 1 : Nat) : Int)) ∧ w = w' := by
  go_enter Tryz.func28, Tryz.ntmps28
  go_wp2_with fail
  go_loopw [3, 4] (fun av iv wr => ∃ k : Nat, k ≤ n ∧ iv = .int .i64 k ∧ av = .int .i64 ((2 ^ k - 1 : Nat) : Int) ∧ w = wr) (fun _ iv _ => n - (intOf iv).toNat)
  case atStart => exact ⟨0, by omega, rfl, rfl, rfl⟩
  case round =>
    obtain ⟨k, hk, rfl, rfl, rfl⟩ := hrel
    by_cases hlt : k < n
    · have hs : 2 ^ (k + 1) - 1 = 2 * (2 ^ k - 1) + 1 := by
        have := Nat.pow_succ 2 k
        have := Nat.one_le_two_pow (n := k)
        omega
      have hb : 2 ^ k - 1 < 64 := by
        have : 2 ^ k ≤ 2 ^ 6 := Nat.pow_le_pow_right (by decide) (by omega)
        omega
      have hsH := Lib.hid hs
      clear hs
      generalize 2 ^ k - 1 = a at *
      go_wp2
      go_roundw
      case rel => exact ⟨k + 1, by omega, by go_num, by rw [hsH.out]; push_cast; rfl, trivial⟩
      case measure => simp [intOf]; omega
    · obtain rfl : k = n := by omega
      go_wp2
      go_ret
      exact ⟨rfl, rfl⟩
end Go.Proofs.YtjpmlneihbckpaaGreatDoor
/- How many nodes trees of a height have: plain law. -/
set_option linter.unusedVariables false
set_option linter.unusedSimpArgs false
namespace Go.Proofs.YtjpmlneihbckpaaGreatDoor
open Go.RowKit Go.Shelf
def fibL : Nat → Nat × Nat
  | 0 => (0, 1)
  | n + 1 => ((fibL n).2, (fibL n).1 + (fibL n).2 + 1)
/-- how many nodes an AVL tree of a height has at least -/
def leastN (n : Nat) : Nat := (fibL n).1
theorem leastN_two (n : Nat) : leastN (n + 2) = leastN n + leastN (n + 1) + 1 := rfl
theorem leastN_step : ∀ n, leastN n ≤ leastN (n + 1)
  | 0 => by decide
  | n + 1 => by rw [leastN_two]; omega
theorem leastN_mono {a b : Nat} (h : a ≤ b) : leastN a ≤ leastN b := by
  induction h with
  | refl => exact Nat.le_refl _
  | step _ ih => exact Nat.le_trans ih (leastN_step _)
namespace BT
theorem Avl.least : ∀ {t : BT}, t.Avl → leastN t.hgt ≤ t.size
  | nil, _ => Nat.le_refl _
  | node x kx vx m k v l r, ⟨h1, h2, h3, h4, h5⟩ => by
    have e1 := Avl.least h4
    have e2 := Avl.least h5
    simp only [hgt, size]
    rcases Nat.le_total l.hgt r.hgt with h | h
    · rw [Nat.max_eq_right h]
      by_cases h0 : r.hgt = 0
      · rw [h0]; have : leastN (0 + 1) = 1 := rfl; omega
      · obtain ⟨j, hj⟩ : ∃ j, r.hgt = j + 1 := ⟨r.hgt - 1, by omega⟩
        have := leastN_mono (show j ≤ l.hgt by omega)
        rw [hj] at e2 ⊢
        rw [leastN_two]
        omega
    · rw [Nat.max_eq_left h]
      by_cases h0 : l.hgt = 0
      · rw [h0]; have : leastN (0 + 1) = 1 := rfl; omega
      · obtain ⟨j, hj⟩ : ∃ j, l.hgt = j + 1 := ⟨l.hgt - 1, by omega⟩
        have := leastN_mono (show j ≤ r.hgt by omega)
        rw [hj] at e1 ⊢
        rw [leastN_two]
        omega
theorem size_pow : ∀ t : BT, t.size + 1 ≤ 2 ^ t.hgt
  | nil => Nat.le_refl _
  | node x kx vx m k v l r => by
    have e1 := size_pow l
    have e2 := size_pow r
    have m1 := Nat.pow_le_pow_right (show 0 < 2 by omega) (Nat.le_max_left l.hgt r.hgt)
    have m2 := Nat.pow_le_pow_right (show 0 < 2 by omega) (Nat.le_max_right l.hgt r.hgt)
    simp only [hgt, size]
    rw [Nat.pow_succ]
    omega
end BT
end Go.Proofs.YtjpmlneihbckpaaGreatDoor

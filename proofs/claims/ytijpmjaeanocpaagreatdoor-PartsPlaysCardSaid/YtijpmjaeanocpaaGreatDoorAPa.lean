/-
  The seat's own texts, shared part a: AvM, AvT, AvA, AvB, AvT2, RbM, RbT, RbT2, Joined, AvJ, RbT3, PaM.
-/
import Derived.Test.YtijpmjaeanocpaaGreatDoorAMu

set_option linter.unusedVariables false
set_option linter.unusedSimpArgs false
namespace Go.Proofs.YtijpmjaeanocpaaGreatDoor
open Go.RowKit Go.Shelf
def toU (z : Int) : Nat := (z % 18446744073709551616).toNat
theorem toU_lt (z : Int) : toU z < 18446744073709551616 := by
  unfold toU
  have h1 := Int.emod_nonneg z (show (18446744073709551616 : Int) ≠ 0 by omega)
  have h2 := Int.emod_lt_of_pos z (show (0 : Int) < 18446744073709551616 by omega)
  omega
theorem toU_nat (n : Nat) (h : n < 9223372036854775808) : toU (wrap64 (n : Int)) = n := by
  rw [IntWalk.wrap64_in _ (by omega)]
  unfold toU
  omega
def putN (R : Nat → Option (List Nat)) (x : Nat) (nd : Nd) : Nat → Option (List Nat) := if nodeE R x = 0 then updR R x (some nd.ws) else R
theorem putN_other {R : Nat → Option (List Nat)} {x y : Nat} {nd : Nd} (h : y ≠ x) : putN R x nd y = R y := by
  unfold putN
  split
  · exact updR_other h
  · rfl
theorem putN_same {R : Nat → Option (List Nat)} {x : Nat} {nd : Nd} (h : nodeE R x = 0) : putN R x nd x = some nd.ws := by
  unfold putN
  rw [if_pos h, updR_same]
def avH (R : Nat → Option (List Nat)) (x : Nat) : Int := wrap64 (nodeG R x).mark
def withN (R : Nat → Option (List Nat)) (t : Nd) (l r : Nat) : Nd :=
  ⟨t.key, t.val, l, r, toU (wrap64 (max (avH R l) (avH R r) + 1)), toU (wrap64 (wrap64 (tsizeR R l + tsizeR R r) + 1))⟩
def withR (R : Nat → Option (List Nat)) (t : Nd) (x l r : Nat) : Nat → Option (List Nat) := putN R x (withN R t l r)
def avLeft (R : Nat → Option (List Nat)) (x : Nat) : (Nat → Option (List Nat)) × Nat :=
  (withR (withR R (nodeG R x) x (nodeG R x).left (nodeG R (nodeG R x).right).left) (nodeG R (nodeG R x).right) (nodeG R x).right x (nodeG R (nodeG R x).right).right, (nodeG R x).right)
def avRight (R : Nat → Option (List Nat)) (x : Nat) : (Nat → Option (List Nat)) × Nat :=
  (withR (withR R (nodeG R x) x (nodeG R (nodeG R x).left).right (nodeG R x).right) (nodeG R (nodeG R x).left) (nodeG R x).left (nodeG R (nodeG R x).left).left x, (nodeG R x).left)
def avBal (R : Nat → Option (List Nat)) (x : Nat) : (Nat → Option (List Nat)) × Nat :=
  if 1 < wrap64 (avH R (nodeG R x).left - avH R (nodeG R x).right) then
    if avH R (nodeG R (nodeG R x).left).left < avH R (nodeG R (nodeG R x).left).right then
      avRight (withR (avLeft R (nodeG R x).left).1 (nodeG R x) x (avLeft R (nodeG R x).left).2 (nodeG R x).right) x
    else avRight R x
  else if wrap64 (avH R (nodeG R x).left - avH R (nodeG R x).right) < -1 then
    if avH R (nodeG R (nodeG R x).right).right < avH R (nodeG R (nodeG R x).right).left then
      avLeft (withR (avRight R (nodeG R x).right).1 (nodeG R x) x (nodeG R x).left (avRight R (nodeG R x).right).2) x
    else avLeft R x
  else (R, x)
def avJoin (m : Nd) (xm : Nat) : Nat → (Nat → Option (List Nat)) → Nat → Nat → (Nat → Option (List Nat)) × Nat
  | 0, R, l, r => (withR R m xm l r, xm)
  | f + 1, R, l, r =>
    if wrap64 (avH R r + 1) < avH R l then
      avBal (withR (avJoin m xm f R (nodeG R l).right r).1 (nodeG R l) l (nodeG R l).left (avJoin m xm f R (nodeG R l).right r).2) l
    else if wrap64 (avH R l + 1) < avH R r then
      avBal (withR (avJoin m xm f R l (nodeG R r).left).1 (nodeG R r) r (avJoin m xm f R l (nodeG R r).left).2 (nodeG R r).right) r
    else (withR R m xm l r, xm)
def KeepsN (R R' : Nat → Option (List Nat)) : Prop := ∀ x, (nodeE R' x = nodeE R x ∧ (nodeE R x ≠ 0 → R' x = R x)) ∧ (nodeG R' x).key = (nodeG R x).key ∧ (nodeG R' x).val = (nodeG R x).val
theorem KeepsN.refl (R : Nat → Option (List Nat)) : KeepsN R R := fun _ => ⟨⟨rfl, fun _ => rfl⟩, rfl, rfl⟩
theorem KeepsN.trans {R R1 R2 : Nat → Option (List Nat)} (h : KeepsN R R1) (k : KeepsN R1 R2) : KeepsN R R2 := fun x => ⟨⟨(k x).1.1.trans (h x).1.1, fun hx => ((k x).1.2 (by rw [(h x).1.1]; exact hx)).trans ((h x).1.2 hx)⟩, (k x).2.1.trans (h x).2.1, (k x).2.2.trans (h x).2.2⟩
theorem nodeE_congr {R R' : Nat → Option (List Nat)} {x : Nat} (h : R' x = R x) : nodeE R' x = nodeE R x ∧ nodeG R' x = nodeG R x := by
  unfold nodeE nodeG nodeR
  rw [h]
  exact ⟨rfl, rfl⟩
theorem KeepsN.put {R : Nat → Option (List Nat)} {x : Nat} {nd : Nd} (hk : nodeE R x = 0 → nd.key = (nodeG R x).key ∧ nd.val = (nodeG R x).val) : KeepsN R (putN R x nd) := fun y => by
  by_cases e : y = x
  · subst e
    by_cases h0 : nodeE R y = 0
    · obtain ⟨e1, e2⟩ := nodeR_at (putN_same (nd := nd) h0)
      rw [e1, e2, h0]
      exact ⟨⟨rfl, fun hx => absurd rfl hx⟩, hk h0⟩
    · unfold putN
      rw [if_neg h0]
      exact ⟨⟨rfl, fun _ => rfl⟩, rfl, rfl⟩
  · obtain ⟨e1, e2⟩ := nodeE_congr (putN_other (nd := nd) (R := R) e)
    rw [e1, e2]
    exact ⟨⟨rfl, fun _ => putN_other e⟩, rfl, rfl⟩
theorem KeepsN.with {R : Nat → Option (List Nat)} {t : Nd} {x l r : Nat} (hk : t.key = (nodeG R x).key ∧ t.val = (nodeG R x).val) : KeepsN R (withR R t x l r) := KeepsN.put fun _ => hk
theorem avLeft_keeps (R : Nat → Option (List Nat)) (x : Nat) : KeepsN R (avLeft R x).1 := by
  have h1 : KeepsN R (withR R (nodeG R x) x (nodeG R x).left (nodeG R (nodeG R x).right).left) := KeepsN.with ⟨rfl, rfl⟩
  exact h1.trans (KeepsN.with ⟨(h1 _).2.1.symm, (h1 _).2.2.symm⟩)
theorem avRight_keeps (R : Nat → Option (List Nat)) (x : Nat) : KeepsN R (avRight R x).1 := by
  have h1 : KeepsN R (withR R (nodeG R x) x (nodeG R (nodeG R x).left).right (nodeG R x).right) := KeepsN.with ⟨rfl, rfl⟩
  exact h1.trans (KeepsN.with ⟨(h1 _).2.1.symm, (h1 _).2.2.symm⟩)
theorem avBal_keeps (R : Nat → Option (List Nat)) (x : Nat) : KeepsN R (avBal R x).1 := by
  unfold avBal
  split
  · split
    · have h1 := avLeft_keeps R (nodeG R x).left
      have h2 : KeepsN _ (withR (avLeft R (nodeG R x).left).1 (nodeG R x) x (avLeft R (nodeG R x).left).2 (nodeG R x).right) := KeepsN.with ⟨(h1 _).2.1.symm, (h1 _).2.2.symm⟩
      exact (h1.trans h2).trans (avRight_keeps _ _)
    · exact avRight_keeps _ _
  · split
    · split
      · have h1 := avRight_keeps R (nodeG R x).right
        have h2 : KeepsN _ (withR (avRight R (nodeG R x).right).1 (nodeG R x) x (nodeG R x).left (avRight R (nodeG R x).right).2) := KeepsN.with ⟨(h1 _).2.1.symm, (h1 _).2.2.symm⟩
        exact (h1.trans h2).trans (avLeft_keeps _ _)
      · exact avLeft_keeps _ _
    · exact KeepsN.refl _
theorem avJoin_keeps (m : Nd) (xm : Nat) : ∀ (f : Nat) (R : Nat → Option (List Nat)) (l r : Nat), m.key = (nodeG R xm).key ∧ m.val = (nodeG R xm).val → KeepsN R (avJoin m xm f R l r).1
  | 0, R, l, r, h => KeepsN.with h
  | f + 1, R, l, r, h => by
    rw [avJoin]
    split
    · have h1 := avJoin_keeps m xm f R (nodeG R l).right r h
      have h2 : KeepsN _ (withR (avJoin m xm f R (nodeG R l).right r).1 (nodeG R l) l (nodeG R l).left (avJoin m xm f R (nodeG R l).right r).2) := KeepsN.with ⟨(h1 _).2.1.symm, (h1 _).2.2.symm⟩
      exact (h1.trans h2).trans (avBal_keeps _ _)
    · split
      · have h1 := avJoin_keeps m xm f R l (nodeG R r).left h
        have h2 : KeepsN _ (withR (avJoin m xm f R l (nodeG R r).left).1 (nodeG R r) r (avJoin m xm f R l (nodeG R r).left).2 (nodeG R r).right) := KeepsN.with ⟨(h1 _).2.1.symm, (h1 _).2.2.symm⟩
        exact (h1.trans h2).trans (avBal_keeps _ _)
      · exact KeepsN.with h
end Go.Proofs.YtijpmjaeanocpaaGreatDoor

set_option linter.unusedVariables false
set_option linter.unusedSimpArgs false
namespace Go.Proofs.YtijpmjaeanocpaaGreatDoor
open Go.RowKit Go.Shelf
namespace BT
def mk : BT → Nat
  | nil => 0
  | node _ _ _ m _ _ _ _ => m
def hgt : BT → Nat
  | nil => 0
  | node _ _ _ _ _ _ l r => max l.hgt r.hgt + 1
def Avl : BT → Prop
  | nil => True
  | node _ _ _ m _ _ l r => m = max l.hgt r.hgt + 1 ∧ l.hgt ≤ r.hgt + 1 ∧ r.hgt ≤ l.hgt + 1 ∧ l.Avl ∧ r.Avl
theorem hgt_le : ∀ t : BT, t.hgt ≤ t.size
  | nil => Nat.le_refl _
  | node _ _ _ _ _ _ l r => by
    have h1 := hgt_le l
    have h2 := hgt_le r
    simp only [hgt, size]
    omega
theorem Avl.mk : ∀ {t : BT}, t.Avl → t.mk = t.hgt
  | nil, _ => rfl
  | node _ _ _ _ _ _ _ _, h => h.1
theorem hgt_pos {t : BT} (h : 0 < t.hgt) : ∃ x kx vx m k v l r, t = node x kx vx m k v l r := by
  cases t with
  | nil => exact absurd h (Nat.lt_irrefl 0)
  | node x kx vx m k v l r => exact ⟨_, _, _, _, _, _, _, _, rfl⟩
structure Sim (t t' : BT) : Prop where
  hs : t'.hs = t.hs
  nodes : t'.nodes = t.nodes
  prs : t'.prs = t.prs
theorem Sim.refl (t : BT) : Sim t t := ⟨rfl, rfl, rfl⟩
theorem Sim.trans {a b c : BT} (h : Sim a b) (k : Sim b c) : Sim a c := ⟨k.hs.trans h.hs, k.nodes.trans h.nodes, k.prs.trans h.prs⟩
theorem Sim.symm {a b : BT} (h : Sim a b) : Sim b a := ⟨h.hs.symm, h.nodes.symm, h.prs.symm⟩
theorem Sim.size {a b : BT} (h : Sim a b) : b.size = a.size := by rw [← nodes_len, ← nodes_len, h.nodes]
theorem Sim.nodup {a b : BT} (h : Sim a b) (n : a.hs.Nodup) : b.hs.Nodup := by rw [h.hs]; exact n
theorem Sim.mem {a b : BT} (h : Sim a b) {z : Nat} (n : z ∉ a.nodes) : z ∉ b.nodes := by rw [h.nodes]; exact n
theorem node_nodup {x kx vx m : Nat} {k v : ByteArray} {l r : BT} : (node x kx vx m k v l r).hs.Nodup ↔ l.hs.Nodup ∧ r.hs.Nodup ∧ (x ∉ l.hs ∧ kx ∉ l.hs ∧ vx ∉ l.hs) ∧ (x ∉ r.hs ∧ kx ∉ r.hs ∧ vx ∉ r.hs) ∧ (x ≠ kx ∧ x ≠ vx ∧ kx ≠ vx) ∧ ∀ z ∈ l.hs, z ∉ r.hs := by
  simp only [hs, List.nodup_append, List.nodup_cons, List.mem_cons, not_or]
  constructor
  · rintro ⟨h1, ⟨⟨a1, a2, a3⟩, ⟨b1, b2⟩, c1, h2⟩, h3⟩
    exact ⟨h1, h2, ⟨fun h => h3 x h x (.inl rfl) rfl, fun h => h3 kx h kx (.inr (.inl rfl)) rfl, fun h => h3 vx h vx (.inr (.inr (.inl rfl))) rfl⟩, ⟨a3, b2, c1⟩, ⟨a1, a2, b1⟩, fun z hz hz' => h3 z hz z (.inr (.inr (.inr hz'))) rfl⟩
  · rintro ⟨h1, h2, ⟨d1, d2, d3⟩, ⟨a3, b2, c1⟩, ⟨a1, a2, b1⟩, h3⟩
    refine ⟨h1, ⟨⟨a1, a2, a3⟩, ⟨b1, b2⟩, c1, h2⟩, ?_⟩
    rintro a ha b (rfl | rfl | rfl | hb) rfl
    · exact d1 ha
    · exact d2 ha
    · exact d3 ha
    · exact h3 a ha hb
section
variable {R : Nat → Option (List Nat)}
theorem nodeG_zero (h0 : R 0 = none) : nodeG R 0 = Nd.zero := by unfold nodeG nodeR; rw [h0]; rfl
theorem avH_at {t : BT} (ht : t.At R) (h0 : R 0 = none) (hm : t.mk = t.hgt) (hs : t.size < 1000000) : avH R t.root = (t.hgt : Nat) := by
  have hle := hgt_le t
  unfold avH
  cases t with
  | nil =>
    rw [root, nodeG_zero h0]
    exact IntWalk.wrap64_in 0 (by omega)
  | node x kx vx m k v l r =>
    obtain ⟨h1, h2, _⟩ := ht
    have h3 : m = (node x kx vx m k v l r).hgt := hm
    rw [root, (nodeR_at h2).2]
    show wrap64 ((m : Nat) : Int) = _
    rw [h3]
    exact IntWalk.wrap64_in _ (by omega)
theorem withR_other {nd : Nd} {x y l r : Nat} (h : y ≠ x) : withR R nd x l r y = R y := putN_other h
theorem with_bt {nd : Nd} {x : Nat} {k v : ByteArray} {l r : BT} (h0 : R 0 = none) (hx : nodeE R x = 0) (x0 : x ≠ 0) (hl : l.At R) (hr : r.At R) (ml : l.mk = l.hgt) (mr : r.mk = r.hgt) (hsz : l.size + r.size < 999999)
    (hk : R nd.key = some (Tx.wordsL k.data.toList)) (hv : R nd.val = some (Tx.wordsL v.data.toList)) (ks : k.size ≤ 1000) (vs : v.size ≤ 1000) (xl : x ∉ l.hs) (xr : x ∉ r.hs) (xk : x ≠ nd.key) (xv : x ≠ nd.val) :
    (node x nd.key nd.val (max l.hgt r.hgt + 1) k v l r).At (withR R nd x l.root r.root) := by
  have e : withN R nd l.root r.root = ⟨nd.key, nd.val, l.root, r.root, max l.hgt r.hgt + 1, l.size + 1 + r.size⟩ := by
    have l1 := hgt_le l
    have l2 := hgt_le r
    unfold withN
    rw [avH_at hl h0 ml (by omega), avH_at hr h0 mr (by omega), tsize_at hl h0 (by omega), tsize_at hr h0 (by omega)]
    rw [show max ((l.hgt : Nat) : Int) (r.hgt : Nat) + 1 = ((max l.hgt r.hgt + 1 : Nat) : Int) by omega, toU_nat _ (by omega)]
    rw [show ((l.size : Nat) : Int) + (r.size : Nat) = ((l.size + r.size : Nat) : Int) by omega, show wrap64 ((l.size + r.size : Nat) : Int) = ((l.size + r.size : Nat) : Int) from IntWalk.wrap64_in _ (by omega)]
    rw [show ((l.size + r.size : Nat) : Int) + 1 = ((l.size + 1 + r.size : Nat) : Int) by omega, toU_nat _ (by omega)]
  refine ⟨x0, ?_, ?_, ?_, ks, vs, hl.congr fun z hz => putN_other (fun e => xl (e ▸ hz)), hr.congr fun z hz => putN_other (fun e => xr (e ▸ hz))⟩
  · unfold withR
    rw [e, putN_same hx]
  · rw [withR_other (fun e => xk e.symm), hk]
  · rw [withR_other (fun e => xv e.symm), hv]
theorem left_bt {x kx vx mx y ky vy my : Nat} {k v k' v' : ByteArray} {A B C : BT} (h0 : R 0 = none) (h : (node x kx vx mx k v A (node y ky vy my k' v' B C)).At R) (hn : (node x kx vx mx k v A (node y ky vy my k' v' B C)).hs.Nodup)
    (sz : (node x kx vx mx k v A (node y ky vy my k' v' B C)).size < 999999) (mA : A.mk = A.hgt) (mB : B.mk = B.hgt) (mC : C.mk = C.hgt) :
    (avLeft R x).2 = y ∧ (node y ky vy (max (max A.hgt B.hgt + 1) C.hgt + 1) k' v' (node x kx vx (max A.hgt B.hgt + 1) k v A B) C).At (avLeft R x).1 ∧ ∀ z, z ≠ x → z ≠ y → (avLeft R x).1 z = R z := by
  obtain ⟨x0, hx, hkx, hvx, kx1, vx1, hA, hY⟩ := h
  obtain ⟨y0, hy, hky, hvy, ky1, vy1, hB, hC⟩ := hY
  obtain ⟨nA, nY, ⟨a1, a2, a3⟩, ⟨b1, b2, b3⟩, ⟨c1, c2, c3⟩, c4⟩ := node_nodup.1 hn
  obtain ⟨nB, nC, ⟨d1, d2, d3⟩, ⟨e1, e2, e3⟩, ⟨f1, f2, f3⟩, f4⟩ := node_nodup.1 nY
  simp only [hs, List.mem_append, List.mem_cons, not_or] at b1 b2 b3 c4
  simp only [size] at sz
  obtain ⟨ex, gx⟩ := nodeR_at hx
  obtain ⟨ey, gy⟩ := nodeR_at hy
  have e : avLeft R x = (withR (withR R ⟨kx, vx, A.root, y, mx, A.size + 1 + (node y ky vy my k' v' B C).size⟩ x A.root B.root) ⟨ky, vy, B.root, C.root, my, B.size + 1 + C.size⟩ y x C.root, y) := by
    unfold avLeft
    rw [gx]
    show (withR (withR R _ x A.root (nodeG R y).left) (nodeG R y) y x (nodeG R y).right, y) = _
    rw [gy]
    rfl
  rw [e]
  generalize hnx : (⟨kx, vx, A.root, y, mx, A.size + 1 + (node y ky vy my k' v' B C).size⟩ : Nd) = ndx
  have hkx' : ndx.key = kx := by rw [← hnx]
  have hvx' : ndx.val = vx := by rw [← hnx]
  subst hkx' hvx'
  have hX : (node x ndx.key ndx.val (max A.hgt B.hgt + 1) k v A B).At (withR R ndx x A.root B.root) :=
    with_bt h0 ex x0 hA hB mA mB (by omega) hkx hvx kx1 vx1 a1 b1.1 c1 c2
  have hoth : ∀ z, z ≠ x → withR R ndx x A.root B.root z = R z := fun z hz => withR_other hz
  have h01 : withR R ndx x A.root B.root 0 = none := (hoth 0 (fun e => x0 e.symm)).trans h0
  have hC1 : C.At (withR R ndx x A.root B.root) := hC.congr fun z hz => hoth z (fun e => b1.2.2.2.2 (e ▸ hz))
  have ey1 : nodeE (withR R ndx x A.root B.root) y = 0 := (nodeE_congr (hoth y (fun e => b1.2.1 e.symm))).1.trans ey
  refine ⟨rfl, ?_, ?_⟩
  · exact with_bt (nd := ⟨ky, vy, B.root, C.root, my, B.size + 1 + C.size⟩) (l := node x ndx.key ndx.val (max A.hgt B.hgt + 1) k v A B) h01 ey1 y0 hX hC1 rfl mC (by simp only [size]; omega)
      ((hoth ky (fun e => b1.2.2.1 e.symm)).trans hky) ((hoth vy (fun e => b1.2.2.2.1 e.symm)).trans hvy) ky1 vy1
      (by
        simp only [hs, List.mem_append, List.mem_cons, not_or]
        exact ⟨fun h => (c4 y h).2.1 rfl, fun e => b1.2.1 e.symm, fun e => b2.2.1 e.symm, fun e => b3.2.1 e.symm, d1⟩) e1 f1 f2
  · intro z zx zy
    show withR _ _ y x C.root z = R z
    rw [withR_other zy, hoth z zx]
theorem right_bt {x kx vx mx y ky vy my : Nat} {k v k' v' : ByteArray} {A B C : BT} (h0 : R 0 = none) (h : (node x kx vx mx k v (node y ky vy my k' v' A B) C).At R) (hn : (node x kx vx mx k v (node y ky vy my k' v' A B) C).hs.Nodup)
    (sz : (node x kx vx mx k v (node y ky vy my k' v' A B) C).size < 999999) (mA : A.mk = A.hgt) (mB : B.mk = B.hgt) (mC : C.mk = C.hgt) :
    (avRight R x).2 = y ∧ (node y ky vy (max A.hgt (max B.hgt C.hgt + 1) + 1) k' v' A (node x kx vx (max B.hgt C.hgt + 1) k v B C)).At (avRight R x).1 ∧ ∀ z, z ≠ x → z ≠ y → (avRight R x).1 z = R z := by
  obtain ⟨x0, hx, hkx, hvx, kx1, vx1, hY, hC⟩ := h
  obtain ⟨y0, hy, hky, hvy, ky1, vy1, hA, hB⟩ := hY
  obtain ⟨nY, nC, ⟨b1, b2, b3⟩, ⟨a1, a2, a3⟩, ⟨c1, c2, c3⟩, c4⟩ := node_nodup.1 hn
  obtain ⟨nA, nB, ⟨d1, d2, d3⟩, ⟨e1, e2, e3⟩, ⟨f1, f2, f3⟩, f4⟩ := node_nodup.1 nY
  have yC : y ∉ C.hs := c4 y (by simp [hs])
  simp only [hs, List.mem_append, List.mem_cons, not_or] at b1 b2 b3
  simp only [size] at sz
  obtain ⟨ex, gx⟩ := nodeR_at hx
  obtain ⟨ey, gy⟩ := nodeR_at hy
  have e : avRight R x = (withR (withR R ⟨kx, vx, y, C.root, mx, (node y ky vy my k' v' A B).size + 1 + C.size⟩ x B.root C.root) ⟨ky, vy, A.root, B.root, my, A.size + 1 + B.size⟩ y A.root x, y) := by
    unfold avRight
    rw [gx]
    show (withR (withR R _ x (nodeG R y).right C.root) (nodeG R y) y (nodeG R y).left x, y) = _
    rw [gy]
    rfl
  rw [e]
  generalize hnx : (⟨kx, vx, y, C.root, mx, (node y ky vy my k' v' A B).size + 1 + C.size⟩ : Nd) = ndx
  have hkx' : ndx.key = kx := by rw [← hnx]
  have hvx' : ndx.val = vx := by rw [← hnx]
  subst hkx' hvx'
  have hX : (node x ndx.key ndx.val (max B.hgt C.hgt + 1) k v B C).At (withR R ndx x B.root C.root) :=
    with_bt h0 ex x0 hB hC mB mC (by omega) hkx hvx kx1 vx1 b1.2.2.2.2 a1 c1 c2
  have hoth : ∀ z, z ≠ x → withR R ndx x B.root C.root z = R z := fun z hz => withR_other hz
  have h01 : withR R ndx x B.root C.root 0 = none := (hoth 0 (fun e => x0 e.symm)).trans h0
  have hA1 : A.At (withR R ndx x B.root C.root) := hA.congr fun z hz => hoth z (fun e => b1.1 (e ▸ hz))
  have ey1 : nodeE (withR R ndx x B.root C.root) y = 0 := (nodeE_congr (hoth y (fun e => b1.2.1 e.symm))).1.trans ey
  refine ⟨rfl, ?_, ?_⟩
  · exact with_bt (nd := ⟨ky, vy, A.root, B.root, my, A.size + 1 + B.size⟩) (r := node x ndx.key ndx.val (max B.hgt C.hgt + 1) k v B C) h01 ey1 y0 hA1 hX mA rfl (by simp only [size]; omega)
      ((hoth ky (fun e => b1.2.2.1 e.symm)).trans hky) ((hoth vy (fun e => b1.2.2.2.1 e.symm)).trans hvy) ky1 vy1 d1
      (by
        simp only [hs, List.mem_append, List.mem_cons, not_or]
        exact ⟨e1, fun e => b1.2.1 e.symm, fun e => b2.2.1 e.symm, fun e => b3.2.1 e.symm, yC⟩) f1 f2
  · intro z zx zy
    show withR _ _ y A.root x z = R z
    rw [withR_other zy, hoth z zx]
theorem At.root_at {x kx vx m : Nat} {k v : ByteArray} {l r : BT} (h : (node x kx vx m k v l r).At R) : nodeE R x = 0 ∧ nodeG R x = ⟨kx, vx, l.root, r.root, m, l.size + 1 + r.size⟩ := nodeR_at h.2.1
end
end BT
end Go.Proofs.YtijpmjaeanocpaaGreatDoor

set_option linter.unusedVariables false
set_option linter.unusedSimpArgs false
namespace Go.Proofs.YtijpmjaeanocpaaGreatDoor
open Go.RowKit Go.Shelf
namespace BT
theorem ar1 {b c e g : Nat} (h1 : b + 2 ≤ max c (max e g + 1) + 1) (h2 : max c (max e g + 1) + 1 ≤ b + 2) (h3 : c < max e g + 1) (h4 : max e g + 1 ≤ c + 1) (h5 : e ≤ g + 1) (h6 : g ≤ e + 1) :
    max c e + 1 ≤ max g b + 1 + 1 ∧ max g b + 1 ≤ max c e + 1 + 1 ∧ c ≤ e + 1 ∧ e ≤ c + 1 ∧ g ≤ b + 1 ∧ b ≤ g + 1 ∧ max (max c (max e g + 1) + 1) b = c + 2 ∧ max (max c e + 1) (max g b + 1) + 1 = c + 2 ∧ max c (max e g + 1) + 1 = c + 2 ∧ b = c := by
  have hm : max e g = c := by omega
  rw [hm, Nat.max_eq_right (show c ≤ c + 1 by omega)] at h1 h2 ⊢
  obtain rfl : b = c := by omega
  have e1 : e ≤ b := hm ▸ Nat.le_max_left e g
  have g1 : g ≤ b := hm ▸ Nat.le_max_right e g
  rw [Nat.max_eq_left e1, Nat.max_eq_right g1, Nat.max_self]
  have e2 : b ≤ e + 1 := by rw [← hm]; exact Nat.max_le.2 ⟨by omega, by omega⟩
  have g2 : b ≤ g + 1 := by rw [← hm]; exact Nat.max_le.2 ⟨by omega, by omega⟩
  rw [Nat.max_eq_left (show b ≤ b + 1 + 1 by omega)]
  clear hm
  omega
theorem ar2 {b c d : Nat} (h1 : b + 2 ≤ max c d + 1) (h2 : max c d + 1 ≤ b + 2) (h3 : ¬ c < d) (h4 : c ≤ d + 1) :
    c ≤ max d b + 1 + 1 ∧ max d b + 1 ≤ c + 1 ∧ d ≤ b + 1 ∧ b ≤ d + 1 ∧ max (max c d + 1) b = c + 1 ∧ (max c (max d b + 1) + 1 = c + 1 ∨ max c (max d b + 1) + 1 = c + 2) ∧ b + 1 = c := by
  rw [Nat.max_eq_left (show d ≤ c by omega)] at h1 h2 ⊢
  rw [Nat.max_eq_left (show b ≤ d by omega), Nat.max_eq_left (show b ≤ c + 1 by omega)]
  rcases Nat.le_total c (d + 1) with h | h
  · rw [Nat.max_eq_right h]; omega
  · rw [Nat.max_eq_left h]; omega
theorem ar3 {a d e g : Nat} (h1 : a + 2 ≤ max (max e g + 1) d + 1) (h2 : max (max e g + 1) d + 1 ≤ a + 2) (h3 : d < max e g + 1) (h4 : max e g + 1 ≤ d + 1) (h5 : e ≤ g + 1) (h6 : g ≤ e + 1) :
    max a e + 1 ≤ max g d + 1 + 1 ∧ max g d + 1 ≤ max a e + 1 + 1 ∧ a ≤ e + 1 ∧ e ≤ a + 1 ∧ g ≤ d + 1 ∧ d ≤ g + 1 ∧ max a (max (max e g + 1) d + 1) = d + 2 ∧ max (max a e + 1) (max g d + 1) + 1 = d + 2 ∧ a = d := by
  have hm : max e g = d := by omega
  rw [hm, Nat.max_eq_left (show d ≤ d + 1 by omega)] at h1 h2 ⊢
  obtain rfl : a = d := by omega
  have e1 : e ≤ a := hm ▸ Nat.le_max_left e g
  have g1 : g ≤ a := hm ▸ Nat.le_max_right e g
  rw [Nat.max_eq_left e1, Nat.max_eq_right g1, Nat.max_self]
  have e2 : a ≤ e + 1 := by rw [← hm]; exact Nat.max_le.2 ⟨by omega, by omega⟩
  have g2 : a ≤ g + 1 := by rw [← hm]; exact Nat.max_le.2 ⟨by omega, by omega⟩
  rw [Nat.max_eq_right (show a ≤ a + 1 + 1 by omega)]
  clear hm
  omega
theorem ar4 {a c d : Nat} (h1 : a + 2 ≤ max c d + 1) (h2 : max c d + 1 ≤ a + 2) (h3 : ¬ d < c) (h4 : d ≤ c + 1) :
    max a c + 1 ≤ d + 1 ∧ d ≤ max a c + 1 + 1 ∧ a ≤ c + 1 ∧ c ≤ a + 1 ∧ max a (max c d + 1) = d + 1 ∧ (max (max a c + 1) d + 1 = d + 1 ∨ max (max a c + 1) d + 1 = d + 2) ∧ a + 1 = d := by
  rw [Nat.max_eq_right (show c ≤ d by omega)] at h1 h2 ⊢
  rw [Nat.max_eq_right (show a ≤ c by omega), Nat.max_eq_right (show a ≤ d + 1 by omega)]
  rcases Nat.le_total d (c + 1) with h | h
  · rw [Nat.max_eq_left h]; omega
  · rw [Nat.max_eq_right h]; omega
theorem jr1 {a b r t : Nat} (h1 : r + 1 < max a b + 1) (h2 : a ≤ b + 1) (h3 : b ≤ a + 1) (h4 : max b r ≤ t) (h5 : t ≤ max b r + 1) :
    a ≤ t + 2 ∧ t ≤ a + 2 ∧ ∀ u, (a ≤ t + 1 → t ≤ a + 1 → u = max a t + 1) → max a t ≤ u → u ≤ max a t + 1 → max (max a b + 1) r ≤ u ∧ u ≤ max (max a b + 1) r + 1 := by
  have hr : r ≤ b := by rcases Nat.le_total a b with h | h <;> simp only [Nat.max_eq_left h, Nat.max_eq_right h] at h1 <;> omega
  rw [Nat.max_eq_left hr] at h4 h5
  rw [Nat.max_eq_left (show r ≤ max a b + 1 by omega)]
  refine ⟨by omega, by omega, fun u e1 e2 e3 => ?_⟩
  rcases Nat.le_total a b with h | h
  · rw [Nat.max_eq_right h]
    rw [Nat.max_eq_right (show a ≤ t by omega)] at e1 e2 e3
    by_cases c : t ≤ a + 1
    · have := e1 (by omega) c; omega
    · omega
  · rw [Nat.max_eq_left h]
    by_cases c : t ≤ a + 1
    · have := e1 (by omega) c; rcases Nat.le_total a t with k | k
      · rw [Nat.max_eq_right k] at this; omega
      · rw [Nat.max_eq_left k] at this; omega
    · rw [Nat.max_eq_right (show a ≤ t by omega)] at e2 e3; omega
theorem jr2 {a b l t : Nat} (h1 : l + 1 < max a b + 1) (h2 : a ≤ b + 1) (h3 : b ≤ a + 1) (h4 : max l a ≤ t) (h5 : t ≤ max l a + 1) :
    t ≤ b + 2 ∧ b ≤ t + 2 ∧ ∀ u, (t ≤ b + 1 → b ≤ t + 1 → u = max t b + 1) → max t b ≤ u → u ≤ max t b + 1 → max l (max a b + 1) ≤ u ∧ u ≤ max l (max a b + 1) + 1 := by
  have := jr1 (a := b) (b := a) (r := l) (t := t) (by rw [Nat.max_comm]; exact h1) h3 h2 (by rw [Nat.max_comm]; exact h4) (by rw [Nat.max_comm]; exact h5)
  refine ⟨this.2.1, this.1, fun u e1 e2 e3 => ?_⟩
  rw [Nat.max_comm l, Nat.max_comm a]
  exact this.2.2 u (fun p q => by rw [Nat.max_comm]; exact e1 q p) (by rw [Nat.max_comm]; exact e2) (by rw [Nat.max_comm]; exact e3)
theorem sim_left {x kx vx mx y ky vy my mx' my' : Nat} {k v k' v' : ByteArray} {A B C : BT} : Sim (node x kx vx mx k v A (node y ky vy my k' v' B C)) (node y ky vy my' k' v' (node x kx vx mx' k v A B) C) :=
  ⟨by simp only [hs, List.append_assoc, List.cons_append], by simp only [nodes, List.append_assoc, List.cons_append], by simp only [prs, List.append_assoc, List.cons_append]⟩
theorem sim_right {x kx vx mx y ky vy my mx' my' : Nat} {k v k' v' : ByteArray} {A B C : BT} : Sim (node x kx vx mx k v (node y ky vy my k' v' A B) C) (node y ky vy my' k' v' A (node x kx vx mx' k v B C)) :=
  ⟨by simp only [hs, List.append_assoc, List.cons_append], by simp only [nodes, List.append_assoc, List.cons_append], by simp only [prs, List.append_assoc, List.cons_append]⟩
theorem sim_in {x kx vx m m' : Nat} {k v : ByteArray} {l l' r r' : BT} (h : Sim l l') (h' : Sim r r') : Sim (node x kx vx m k v l r) (node x kx vx m' k v l' r') :=
  ⟨by simp only [hs, h.hs, h'.hs], by simp only [nodes, h.nodes, h'.nodes], by simp only [prs, h.prs, h'.prs]⟩
end BT
end Go.Proofs.YtijpmjaeanocpaaGreatDoor

set_option linter.unusedVariables false
set_option linter.unusedSimpArgs false
namespace Go.Proofs.YtijpmjaeanocpaaGreatDoor
open Go.RowKit Go.Shelf
namespace BT
structure BalOut (R R' : Nat → Option (List Nat)) (y : Nat) (T t : BT) : Prop where
  root : y = t.root
  at' : t.At R'
  sim : Sim T t
  avl : t.Avl
  frame : ∀ z, z ∉ T.nodes → R' z = R z
section
variable {R : Nat → Option (List Nat)} {x kx vx mx y ky vy my z kz vz mz : Nat} {k v k' v' k2 v2 : ByteArray} {A B C D E G : BT}
theorem bal_ll (h0 : R 0 = none) (h : (node x kx vx mx k v (node y ky vy my k' v' C D) B).At R) (hn : (node x kx vx mx k v (node y ky vy my k' v' C D) B).hs.Nodup)
    (sz : (node x kx vx mx k v (node y ky vy my k' v' C D) B).size < 999999) (aC : C.Avl) (aD : D.Avl) (aB : B.Avl)
    (p1 : C.hgt ≤ max D.hgt B.hgt + 1 + 1) (p2 : max D.hgt B.hgt + 1 ≤ C.hgt + 1) (p3 : D.hgt ≤ B.hgt + 1) (p4 : B.hgt ≤ D.hgt + 1) :
    BalOut R (avRight R x).1 (avRight R x).2 (node x kx vx mx k v (node y ky vy my k' v' C D) B) (node y ky vy (max C.hgt (max D.hgt B.hgt + 1) + 1) k' v' C (node x kx vx (max D.hgt B.hgt + 1) k v D B)) := by
  obtain ⟨s1, s2, s3⟩ := right_bt h0 h hn sz aC.mk aD.mk aB.mk
  refine ⟨s1, s2, sim_right, ⟨rfl, p1, p2, aC, rfl, p3, p4, aD, aB⟩, fun u hu => ?_⟩
  simp only [nodes, List.mem_append, List.mem_cons, not_or] at hu
  exact s3 u hu.2.1 hu.1.2.1
theorem bal_rr (h0 : R 0 = none) (h : (node x kx vx mx k v A (node y ky vy my k' v' C D)).At R) (hn : (node x kx vx mx k v A (node y ky vy my k' v' C D)).hs.Nodup)
    (sz : (node x kx vx mx k v A (node y ky vy my k' v' C D)).size < 999999) (aA : A.Avl) (aC : C.Avl) (aD : D.Avl)
    (p1 : max A.hgt C.hgt + 1 ≤ D.hgt + 1) (p2 : D.hgt ≤ max A.hgt C.hgt + 1 + 1) (p3 : A.hgt ≤ C.hgt + 1) (p4 : C.hgt ≤ A.hgt + 1) :
    BalOut R (avLeft R x).1 (avLeft R x).2 (node x kx vx mx k v A (node y ky vy my k' v' C D)) (node y ky vy (max (max A.hgt C.hgt + 1) D.hgt + 1) k' v' (node x kx vx (max A.hgt C.hgt + 1) k v A C) D) := by
  obtain ⟨s1, s2, s3⟩ := left_bt h0 h hn sz aA.mk aC.mk aD.mk
  refine ⟨s1, s2, sim_left, ⟨rfl, p1, p2, ⟨rfl, p3, p4, aA, aC⟩, aD⟩, fun u hu => ?_⟩
  simp only [nodes, List.mem_append, List.mem_cons, not_or] at hu
  exact s3 u hu.2.1 hu.2.2.2.1
theorem bal_lr (h0 : R 0 = none) (h : (node x kx vx mx k v (node y ky vy my k' v' C (node z kz vz mz k2 v2 E G)) B).At R) (hn : (node x kx vx mx k v (node y ky vy my k' v' C (node z kz vz mz k2 v2 E G)) B).hs.Nodup)
    (sz : (node x kx vx mx k v (node y ky vy my k' v' C (node z kz vz mz k2 v2 E G)) B).size < 999999) (aC : C.Avl) (aE : E.Avl) (aG : G.Avl) (aB : B.Avl)
    (p1 : max C.hgt E.hgt + 1 ≤ max G.hgt B.hgt + 1 + 1) (p2 : max G.hgt B.hgt + 1 ≤ max C.hgt E.hgt + 1 + 1) (p3 : C.hgt ≤ E.hgt + 1) (p4 : E.hgt ≤ C.hgt + 1) (p5 : G.hgt ≤ B.hgt + 1) (p6 : B.hgt ≤ G.hgt + 1) :
    (avLeft R y).2 = z ∧ BalOut R (avRight (withR (avLeft R y).1 (nodeG R x) x z B.root) x).1 (avRight (withR (avLeft R y).1 (nodeG R x) x z B.root) x).2 (node x kx vx mx k v (node y ky vy my k' v' C (node z kz vz mz k2 v2 E G)) B)
      (node z kz vz (max (max C.hgt E.hgt + 1) (max G.hgt B.hgt + 1) + 1) k2 v2 (node y ky vy (max C.hgt E.hgt + 1) k' v' C E) (node x kx vx (max G.hgt B.hgt + 1) k v G B)) := by
  obtain ⟨ex, gx⟩ := h.root_at
  have hA := h.2.2.2.2.2.2.1
  have hB := h.2.2.2.2.2.2.2
  have hD := hA.2.2.2.2.2.2.2
  obtain ⟨nA, nB, ⟨a1, a2, a3⟩, ⟨b1, b2, b3⟩, ⟨c1, c2, c3⟩, c4⟩ := node_nodup.1 hn
  have zz := sz
  simp only [size] at zz
  obtain ⟨r1, r2, r3⟩ := left_bt h0 hA nA (by simp only [size]; omega) aC.mk aE.mk aG.mk
  have zin : z ∈ (node y ky vy my k' v' C (node z kz vz mz k2 v2 E G)).hs := by simp [hs]
  have yin : y ∈ (node y ky vy my k' v' C (node z kz vz mz k2 v2 E G)).hs := by simp [hs]
  have eqx : (avLeft R y).1 x = R x := r3 x (fun e => a1 (e ▸ yin)) (fun e => a1 (e ▸ zin))
  have h01 : (avLeft R y).1 0 = none := (r3 0 (fun e => hA.1 e.symm) (fun e => hD.1 e.symm)).trans h0
  have hB1 : B.At (avLeft R y).1 := hB.congr fun u hu => r3 u (fun e => c4 y yin (e ▸ hu)) (fun e => c4 z zin (e ▸ hu))
  have sl : Sim (node y ky vy my k' v' C (node z kz vz mz k2 v2 E G)) (node z kz vz (max (max C.hgt E.hgt + 1) G.hgt + 1) k2 v2 (node y ky vy (max C.hgt E.hgt + 1) k' v' C E) G) := sim_left
  have hkx : (avLeft R y).1 kx = some (Tx.wordsL k.data.toList) := (r3 kx (fun e => a2 (e ▸ yin)) (fun e => a2 (e ▸ zin))).trans h.2.2.1
  have hvx : (avLeft R y).1 vx = some (Tx.wordsL v.data.toList) := (r3 vx (fun e => a3 (e ▸ yin)) (fun e => a3 (e ▸ zin))).trans h.2.2.2.1
  have hk : (nodeG R x).key = kx := by rw [gx]
  have hv : (nodeG R x).val = vx := by rw [gx]
  have hwt := with_bt (R := (avLeft R y).1) (nd := nodeG R x) (x := x) (k := k) (v := v) h01 ((nodeE_congr eqx).1.trans ex) h.1 r2 hB1 rfl aB.mk (by simp only [size]; omega)
    (by rw [hk]; exact hkx) (by rw [hv]; exact hvx) h.2.2.2.2.1 h.2.2.2.2.2.1 (by rw [sl.hs]; exact a1) b1 (by rw [hk]; exact c1) (by rw [hv]; exact c2)
  rw [hk, hv] at hwt
  have hoth : ∀ u, u ≠ x → withR (avLeft R y).1 (nodeG R x) x z B.root u = (avLeft R y).1 u := fun u hu => withR_other hu
  have hwt' : (node x kx vx (max (max (max C.hgt E.hgt + 1) G.hgt + 1) B.hgt + 1) k v (node z kz vz (max (max C.hgt E.hgt + 1) G.hgt + 1) k2 v2 (node y ky vy (max C.hgt E.hgt + 1) k' v' C E) G) B).At (withR (avLeft R y).1 (nodeG R x) x z B.root) := hwt
  clear hwt
  generalize withR (avLeft R y).1 (nodeG R x) x z B.root = R2 at *
  have sl2 : Sim (node x kx vx mx k v (node y ky vy my k' v' C (node z kz vz mz k2 v2 E G)) B) (node x kx vx (max (max (max C.hgt E.hgt + 1) G.hgt + 1) B.hgt + 1) k v (node z kz vz (max (max C.hgt E.hgt + 1) G.hgt + 1) k2 v2 (node y ky vy (max C.hgt E.hgt + 1) k' v' C E) G) B) := sim_in sl (Sim.refl B)
  obtain ⟨s1, s2, s3⟩ := right_bt ((hoth 0 (fun e => h.1 e.symm)).trans h01) hwt' (sl2.nodup hn) (by rw [sl2.size]; exact sz) rfl aG.mk aB.mk
  refine ⟨r1, s1, s2, sl2.trans sim_right, ⟨rfl, p1, p2, ⟨rfl, p3, p4, aC, aE⟩, rfl, p5, p6, aG, aB⟩, fun u hu => ?_⟩
  simp only [nodes, List.mem_append, List.mem_cons, not_or] at hu
  rw [s3 u hu.2.1 hu.1.2.2.2.1, hoth u hu.2.1, r3 u hu.1.2.1 hu.1.2.2.2.1]
theorem bal_rl (h0 : R 0 = none) (h : (node x kx vx mx k v A (node y ky vy my k' v' (node z kz vz mz k2 v2 E G) D)).At R) (hn : (node x kx vx mx k v A (node y ky vy my k' v' (node z kz vz mz k2 v2 E G) D)).hs.Nodup)
    (sz : (node x kx vx mx k v A (node y ky vy my k' v' (node z kz vz mz k2 v2 E G) D)).size < 999999) (aA : A.Avl) (aE : E.Avl) (aG : G.Avl) (aD : D.Avl)
    (p1 : max A.hgt E.hgt + 1 ≤ max G.hgt D.hgt + 1 + 1) (p2 : max G.hgt D.hgt + 1 ≤ max A.hgt E.hgt + 1 + 1) (p3 : A.hgt ≤ E.hgt + 1) (p4 : E.hgt ≤ A.hgt + 1) (p5 : G.hgt ≤ D.hgt + 1) (p6 : D.hgt ≤ G.hgt + 1) :
    (avRight R y).2 = z ∧ BalOut R (avLeft (withR (avRight R y).1 (nodeG R x) x A.root z) x).1 (avLeft (withR (avRight R y).1 (nodeG R x) x A.root z) x).2 (node x kx vx mx k v A (node y ky vy my k' v' (node z kz vz mz k2 v2 E G) D))
      (node z kz vz (max (max A.hgt E.hgt + 1) (max G.hgt D.hgt + 1) + 1) k2 v2 (node x kx vx (max A.hgt E.hgt + 1) k v A E) (node y ky vy (max G.hgt D.hgt + 1) k' v' G D)) := by
  obtain ⟨ex, gx⟩ := h.root_at
  have hA := h.2.2.2.2.2.2.1
  have hB := h.2.2.2.2.2.2.2
  have hC := hB.2.2.2.2.2.2.1
  obtain ⟨nA, nB, ⟨a1, a2, a3⟩, ⟨b1, b2, b3⟩, ⟨c1, c2, c3⟩, c4⟩ := node_nodup.1 hn
  have zz := sz
  simp only [size] at zz
  obtain ⟨r1, r2, r3⟩ := right_bt h0 hB nB (by simp only [size]; omega) aE.mk aG.mk aD.mk
  have zin : z ∈ (node y ky vy my k' v' (node z kz vz mz k2 v2 E G) D).hs := by simp [hs]
  have yin : y ∈ (node y ky vy my k' v' (node z kz vz mz k2 v2 E G) D).hs := by simp [hs]
  have eqx : (avRight R y).1 x = R x := r3 x (fun e => b1 (e ▸ yin)) (fun e => b1 (e ▸ zin))
  have h01 : (avRight R y).1 0 = none := (r3 0 (fun e => hB.1 e.symm) (fun e => hC.1 e.symm)).trans h0
  have hA1 : A.At (avRight R y).1 := hA.congr fun u hu => r3 u (fun e => c4 u hu (e ▸ yin)) (fun e => c4 u hu (e ▸ zin))
  have sl : Sim (node y ky vy my k' v' (node z kz vz mz k2 v2 E G) D) (node z kz vz (max E.hgt (max G.hgt D.hgt + 1) + 1) k2 v2 E (node y ky vy (max G.hgt D.hgt + 1) k' v' G D)) := sim_right
  have hkx : (avRight R y).1 kx = some (Tx.wordsL k.data.toList) := (r3 kx (fun e => b2 (e ▸ yin)) (fun e => b2 (e ▸ zin))).trans h.2.2.1
  have hvx : (avRight R y).1 vx = some (Tx.wordsL v.data.toList) := (r3 vx (fun e => b3 (e ▸ yin)) (fun e => b3 (e ▸ zin))).trans h.2.2.2.1
  have hk : (nodeG R x).key = kx := by rw [gx]
  have hv : (nodeG R x).val = vx := by rw [gx]
  have hwt := with_bt (R := (avRight R y).1) (nd := nodeG R x) (x := x) (k := k) (v := v) h01 ((nodeE_congr eqx).1.trans ex) h.1 hA1 r2 aA.mk rfl (by simp only [size]; omega)
    (by rw [hk]; exact hkx) (by rw [hv]; exact hvx) h.2.2.2.2.1 h.2.2.2.2.2.1 a1 (by rw [sl.hs]; exact b1) (by rw [hk]; exact c1) (by rw [hv]; exact c2)
  rw [hk, hv] at hwt
  have hoth : ∀ u, u ≠ x → withR (avRight R y).1 (nodeG R x) x A.root z u = (avRight R y).1 u := fun u hu => withR_other hu
  have hwt' : (node x kx vx (max A.hgt (max E.hgt (max G.hgt D.hgt + 1) + 1) + 1) k v A (node z kz vz (max E.hgt (max G.hgt D.hgt + 1) + 1) k2 v2 E (node y ky vy (max G.hgt D.hgt + 1) k' v' G D))).At (withR (avRight R y).1 (nodeG R x) x A.root z) := hwt
  clear hwt
  generalize withR (avRight R y).1 (nodeG R x) x A.root z = R2 at *
  have sl2 : Sim (node x kx vx mx k v A (node y ky vy my k' v' (node z kz vz mz k2 v2 E G) D)) (node x kx vx (max A.hgt (max E.hgt (max G.hgt D.hgt + 1) + 1) + 1) k v A (node z kz vz (max E.hgt (max G.hgt D.hgt + 1) + 1) k2 v2 E (node y ky vy (max G.hgt D.hgt + 1) k' v' G D))) := sim_in (Sim.refl A) sl
  obtain ⟨s1, s2, s3⟩ := left_bt ((hoth 0 (fun e => h.1 e.symm)).trans h01) hwt' (sl2.nodup hn) (by rw [sl2.size]; exact sz) aA.mk aE.mk rfl
  refine ⟨r1, s1, s2, sl2.trans sim_left, ⟨rfl, p1, p2, ⟨rfl, p3, p4, aA, aE⟩, rfl, p5, p6, aG, aD⟩, fun u hu => ?_⟩
  simp only [nodes, List.mem_append, List.mem_cons, not_or] at hu
  rw [s3 u hu.2.1 hu.2.2.1.2.1, hoth u hu.2.1, r3 u hu.2.2.2.1 hu.2.2.1.2.1]
end
end BT
end Go.Proofs.YtijpmjaeanocpaaGreatDoor

set_option linter.unusedVariables false
set_option linter.unusedSimpArgs false
namespace Go.Proofs.YtijpmjaeanocpaaGreatDoor
open Go.RowKit Go.Shelf
namespace BT
section
variable {R : Nat → Option (List Nat)}
theorem bal_bt {x kx vx : Nat} {k v : ByteArray} {A B : BT} (h0 : R 0 = none) (h : (node x kx vx (max A.hgt B.hgt + 1) k v A B).At R) (hn : (node x kx vx (max A.hgt B.hgt + 1) k v A B).hs.Nodup)
    (sz : (node x kx vx (max A.hgt B.hgt + 1) k v A B).size < 999999) (aA : A.Avl) (aB : B.Avl) (d1 : A.hgt ≤ B.hgt + 2) (d2 : B.hgt ≤ A.hgt + 2) :
    ∃ t' : BT, BalOut R (avBal R x).1 (avBal R x).2 (node x kx vx (max A.hgt B.hgt + 1) k v A B) t' ∧
      (A.hgt ≤ B.hgt + 1 → B.hgt ≤ A.hgt + 1 → t'.hgt = max A.hgt B.hgt + 1) ∧ max A.hgt B.hgt ≤ t'.hgt ∧ t'.hgt ≤ max A.hgt B.hgt + 1 := by
  obtain ⟨ex, gx⟩ := h.root_at
  have hA := h.2.2.2.2.2.2.1
  have hB := h.2.2.2.2.2.2.2
  have hdd : wrap64 (avH R A.root - avH R B.root) = (A.hgt : Int) - (B.hgt : Int) := by
    have l1 := hgt_le A
    have l2 := hgt_le B
    simp only [size] at sz
    rw [avH_at hA h0 aA.mk (by omega), avH_at hB h0 aB.mk (by omega), IntWalk.wrap64_in _ (by omega)]
  have hgl : (nodeG R x).left = A.root := by rw [gx]
  have hgr : (nodeG R x).right = B.root := by rw [gx]
  have hun : avBal R x = if 1 < (A.hgt : Int) - (B.hgt : Int) then
      if avH R (nodeG R A.root).left < avH R (nodeG R A.root).right then
        avRight (withR (avLeft R A.root).1 (nodeG R x) x (avLeft R A.root).2 B.root) x
      else avRight R x
    else if (A.hgt : Int) - (B.hgt : Int) < -1 then
      if avH R (nodeG R B.root).right < avH R (nodeG R B.root).left then
        avLeft (withR (avRight R B.root).1 (nodeG R x) x A.root (avRight R B.root).2) x
      else avLeft R x
    else (R, x) := by
    unfold avBal
    rw [hgl, hgr, hdd]
  rw [hun]
  clear hun hdd hgl hgr
  by_cases q1 : B.hgt + 2 ≤ A.hgt
  · rw [if_pos (show 1 < (A.hgt : Int) - (B.hgt : Int) by omega)]
    obtain ⟨y, ky, vy, my, k', v', C, D, rfl⟩ := hgt_pos (t := A) (by omega)
    obtain ⟨rfl, g1, g2, aC, aD⟩ := aA
    have hC := hA.2.2.2.2.2.2.1
    have hD := hA.2.2.2.2.2.2.2
    have hc1 : avH R C.root = (C.hgt : Nat) := avH_at hC h0 aC.mk (by simp only [size] at sz; omega)
    have hc2 : avH R D.root = (D.hgt : Nat) := avH_at hD h0 aD.mk (by simp only [size] at sz; omega)
    rw [show (node y ky vy (max C.hgt D.hgt + 1) k' v' C D).root = y from rfl, (hA.root_at).2]
    simp only [hc1, hc2]
    by_cases q2 : C.hgt < D.hgt
    · rw [if_pos (by omega)]
      obtain ⟨z, kz, vz, mz, k2, v2, E, G, rfl⟩ := hgt_pos (t := D) (by omega)
      obtain ⟨rfl, g3, g4, aE, aG⟩ := aD
      obtain ⟨p1, p2, p3, p4, p5, p6, p7, p8, p9, p10⟩ := ar1 q1 d1 q2 g2 g3 g4
      obtain ⟨r1, r2⟩ := bal_lr h0 h hn sz aC aE aG aB p1 p2 p3 p4 p5 p6
      rw [r1]
      have hh : (node z kz vz (max (max C.hgt E.hgt + 1) (max G.hgt B.hgt + 1) + 1) k2 v2 (node y ky vy (max C.hgt E.hgt + 1) k' v' C E) (node x kx vx (max G.hgt B.hgt + 1) k v G B)).hgt = C.hgt + 2 := p8
      have hm : max (node y ky vy (max C.hgt (node z kz vz (max E.hgt G.hgt + 1) k2 v2 E G).hgt + 1) k' v' C (node z kz vz (max E.hgt G.hgt + 1) k2 v2 E G)).hgt B.hgt = C.hgt + 2 := p7
      refine ⟨_, r2, fun f1 _ => absurd (Nat.le_trans q1 f1) (by omega), ?_, ?_⟩
      · rw [hh, hm]; exact Nat.le_refl _
      · rw [hh, hm]; exact Nat.le_succ _
    · rw [if_neg (by omega)]
      obtain ⟨p1, p2, p3, p4, p5, p6, p7⟩ := ar2 q1 d1 q2 g1
      have r2 := bal_ll h0 h hn sz aC aD aB p1 p2 p3 p4
      have hm : max (node y ky vy (max C.hgt D.hgt + 1) k' v' C D).hgt B.hgt = C.hgt + 1 := p5
      refine ⟨_, r2, fun f1 _ => absurd (Nat.le_trans q1 f1) (by omega), ?_, ?_⟩
      · rw [hm]; show _ ≤ max C.hgt (max D.hgt B.hgt + 1) + 1; rcases p6 with e | e <;> rw [e] <;> omega
      · rw [hm]; show max C.hgt (max D.hgt B.hgt + 1) + 1 ≤ _; rcases p6 with e | e <;> rw [e] <;> omega
  · rw [if_neg (show ¬ 1 < (A.hgt : Int) - (B.hgt : Int) by omega)]
    by_cases q2 : A.hgt + 2 ≤ B.hgt
    · rw [if_pos (show (A.hgt : Int) - (B.hgt : Int) < -1 by omega)]
      obtain ⟨y, ky, vy, my, k', v', C, D, rfl⟩ := hgt_pos (t := B) (by omega)
      obtain ⟨rfl, g1, g2, aC, aD⟩ := aB
      have hC := hB.2.2.2.2.2.2.1
      have hD := hB.2.2.2.2.2.2.2
      have hc1 : avH R C.root = (C.hgt : Nat) := avH_at hC h0 aC.mk (by simp only [size] at sz; omega)
      have hc2 : avH R D.root = (D.hgt : Nat) := avH_at hD h0 aD.mk (by simp only [size] at sz; omega)
      rw [show (node y ky vy (max C.hgt D.hgt + 1) k' v' C D).root = y from rfl, (hB.root_at).2]
      simp only [hc1, hc2]
      by_cases q3 : D.hgt < C.hgt
      · rw [if_pos (by omega)]
        obtain ⟨z, kz, vz, mz, k2, v2, E, G, rfl⟩ := hgt_pos (t := C) (by omega)
        obtain ⟨rfl, g3, g4, aE, aG⟩ := aC
        obtain ⟨p1, p2, p3, p4, p5, p6, p7, p8, p9⟩ := ar3 q2 d2 q3 g1 g3 g4
        obtain ⟨r1, r2⟩ := bal_rl h0 h hn sz aA aE aG aD p1 p2 p3 p4 p5 p6
        rw [r1]
        have hh : (node z kz vz (max (max A.hgt E.hgt + 1) (max G.hgt D.hgt + 1) + 1) k2 v2 (node x kx vx (max A.hgt E.hgt + 1) k v A E) (node y ky vy (max G.hgt D.hgt + 1) k' v' G D)).hgt = D.hgt + 2 := p8
        have hm : max A.hgt (node y ky vy (max (node z kz vz (max E.hgt G.hgt + 1) k2 v2 E G).hgt D.hgt + 1) k' v' (node z kz vz (max E.hgt G.hgt + 1) k2 v2 E G) D).hgt = D.hgt + 2 := p7
        refine ⟨_, r2, fun _ f1 => absurd (Nat.le_trans q2 f1) (by omega), ?_, ?_⟩
        · rw [hh, hm]; exact Nat.le_refl _
        · rw [hh, hm]; exact Nat.le_succ _
      · rw [if_neg (by omega)]
        obtain ⟨p1, p2, p3, p4, p5, p6, p7⟩ := ar4 q2 d2 q3 g2
        have r2 := bal_rr h0 h hn sz aA aC aD p1 p2 p3 p4
        have hm : max A.hgt (node y ky vy (max C.hgt D.hgt + 1) k' v' C D).hgt = D.hgt + 1 := p5
        refine ⟨_, r2, fun _ f1 => absurd (Nat.le_trans q2 f1) (by omega), ?_, ?_⟩
        · rw [hm]; show _ ≤ max (max A.hgt C.hgt + 1) D.hgt + 1; rcases p6 with e | e <;> rw [e] <;> omega
        · rw [hm]; show max (max A.hgt C.hgt + 1) D.hgt + 1 ≤ _; rcases p6 with e | e <;> rw [e] <;> omega
    · rw [if_neg (show ¬ (A.hgt : Int) - (B.hgt : Int) < -1 by omega)]
      exact ⟨_, ⟨rfl, h, Sim.refl _, ⟨rfl, by omega, by omega, aA, aB⟩, fun u _ => rfl⟩, fun _ _ => rfl, Nat.le_succ _, Nat.le_refl _⟩
theorem nodes_zero {R : Nat → Option (List Nat)} (h0 : R 0 = none) {t : BT} (h : t.At R) : (0 : Nat) ∉ t.nodes := fun h9 => by
  obtain ⟨q, hq⟩ := BT.nodes_six t h 0 h9
  rw [h0] at hq; cases hq
theorem join_l {R R1 : Nat → Option (List Nat)} {xm km vm x kx vx y1 : Nat} {k v k' v' : ByteArray} {A B r T : BT} (h0 : R 0 = none) (hX : (node x kx vx (max A.hgt B.hgt + 1) k' v' A B).At R) (hr : r.At R) (hm0 : xm ≠ 0) (aK : A.Avl) (hn : (node xm km vm 0 k v (node x kx vx (max A.hgt B.hgt + 1) k' v' A B) r).hs.Nodup) (sz : (node xm km vm 0 k v (node x kx vx (max A.hgt B.hgt + 1) k' v' A B) r).size < 999990)
    (hT : BalOut R R1 y1 (node xm km vm 0 k v B r) T) (d1 : A.hgt ≤ T.hgt + 2) (d2 : T.hgt ≤ A.hgt + 2) :
    ∃ t : BT, BalOut R (avBal (withR R1 (nodeG R x) x A.root T.root) x).1 (avBal (withR R1 (nodeG R x) x A.root T.root) x).2 (node xm km vm 0 k v (node x kx vx (max A.hgt B.hgt + 1) k' v' A B) r) t ∧ (A.hgt ≤ T.hgt + 1 → T.hgt ≤ A.hgt + 1 → t.hgt = max A.hgt T.hgt + 1) ∧ max A.hgt T.hgt ≤ t.hgt ∧ t.hgt ≤ max A.hgt T.hgt + 1 := by
  obtain ⟨ex, gx⟩ := hX.root_at
  have hx0 := hX.1
  have hA := hX.2.2.2.2.2.2.1
  have hB := hX.2.2.2.2.2.2.2
  obtain ⟨nX, nr, ⟨a1, a2, a3⟩, ⟨b1, b2, b3⟩, ⟨c1, c2, c3⟩, c4⟩ := node_nodup.1 hn
  obtain ⟨mA, mB, ⟨d1', d2', d3'⟩, ⟨e1, e2, e3⟩, ⟨f1, f2, f3⟩, f4⟩ := node_nodup.1 nX
  have hsT := hT.sim.size
  have hkept : ∀ z, z ∈ A.hs ∨ z = x ∨ z = kx ∨ z = vx → z ∉ T.hs := fun z hz => by
    have hzl : z ∈ (node x kx vx (max A.hgt B.hgt + 1) k' v' A B).hs := by
      simp only [hs, List.mem_append, List.mem_cons]
      rcases hz with h | h | h | h <;> simp [h]
    have hz2 : z ≠ xm ∧ z ≠ km ∧ z ≠ vm ∧ z ∉ r.hs := ⟨fun e => a1 (e ▸ hzl), fun e => a2 (e ▸ hzl), fun e => a3 (e ▸ hzl), c4 z hzl⟩
    rw [hT.sim.hs]
    intro h; rcases List.mem_append.1 h with h | h
    · rcases hz with h' | rfl | rfl | rfl
      · exact f4 z h' h
      · exact e1 h
      · exact e2 h
      · exact e3 h
    · simp only [List.mem_cons] at h
      rcases h with h | h | h | h
      · exact hz2.1 h
      · exact hz2.2.1 h
      · exact hz2.2.2.1 h
      · exact hz2.2.2.2 h
  have hof : ∀ z, z ∉ T.hs → R1 z = R z := fun z hz => hT.frame z (fun h => hz (by rw [hT.sim.hs]; exact nodes_hs _ _ h))
  have xT := hkept x (by simp)
  have hR1 : R1 0 = none := by
    refine (hT.frame 0 fun h9 => ?_).trans h0
    simp only [nodes, List.mem_append, List.mem_cons] at h9
    rcases h9 with h | h | h
    · exact nodes_zero h0 hB h
    · exact hm0 h.symm
    · exact nodes_zero h0 hr h
  have hK1 : A.At R1 := hA.congr fun z hz => hof z (hkept z (.inl hz))
  have hk : (nodeG R x).key = kx := by rw [gx]
  have hv : (nodeG R x).val = vx := by rw [gx]
  have z1 : (node xm km vm 0 k v (node x kx vx (max A.hgt B.hgt + 1) k' v' A B) r).size = T.size + 1 + A.size := by rw [hsT]; simp only [size]; omega
  have hw := with_bt (R := R1) (nd := nodeG R x) (x := x) (k := k') (v := v') hR1 ((nodeE_congr (hof x xT)).1.trans ex) hx0 hK1 hT.at' aK.mk hT.avl.mk (by omega)
    (by rw [hk]; exact (hof kx (hkept kx (by simp))).trans hX.2.2.1) (by rw [hv]; exact (hof vx (hkept vx (by simp))).trans hX.2.2.2.1) hX.2.2.2.2.1 hX.2.2.2.2.2.1 d1' xT (by rw [hk]; exact f1) (by rw [hv]; exact f2)
  rw [hk, hv] at hw
  have hoth : ∀ u, u ≠ x → withR R1 (nodeG R x) x A.root T.root u = R1 u := fun u hu => withR_other hu
  generalize withR R1 (nodeG R x) x A.root T.root = R2 at *
  have sm : Sim (node xm km vm 0 k v (node x kx vx (max A.hgt B.hgt + 1) k' v' A B) r) (node x kx vx (max A.hgt T.hgt + 1) k' v' A T) :=
    ⟨by simp only [hs, hT.sim.hs, List.append_assoc, List.cons_append], by simp only [nodes, hT.sim.nodes, List.append_assoc, List.cons_append], by simp only [prs, hT.sim.prs, List.append_assoc, List.cons_append]⟩
  obtain ⟨t, o, s6⟩ := bal_bt ((hoth 0 (fun e => hx0 e.symm)).trans hR1) hw (sm.nodup hn) (by rw [sm.size]; omega) aK hT.avl d1 d2
  refine ⟨t, ⟨o.root, o.at', sm.trans o.sim, o.avl, fun z hz => ?_⟩, s6⟩
  rw [o.frame z (sm.mem hz)]
  simp only [nodes, List.mem_append, List.mem_cons, not_or] at hz
  rw [hoth z hz.1.2.1]
  exact hT.frame z (by simp only [nodes, List.mem_append, List.mem_cons, not_or]; exact ⟨hz.1.2.2, hz.2.1, hz.2.2⟩)
theorem join_r {R R1 : Nat → Option (List Nat)} {xm km vm x kx vx y1 : Nat} {k v k' v' : ByteArray} {A B r T : BT} (h0 : R 0 = none) (hX : (node x kx vx (max A.hgt B.hgt + 1) k' v' A B).At R) (hr : r.At R) (hm0 : xm ≠ 0) (aK : B.Avl) (hn : (node xm km vm 0 k v r (node x kx vx (max A.hgt B.hgt + 1) k' v' A B)).hs.Nodup) (sz : (node xm km vm 0 k v r (node x kx vx (max A.hgt B.hgt + 1) k' v' A B)).size < 999990)
    (hT : BalOut R R1 y1 (node xm km vm 0 k v r A) T) (d1 : T.hgt ≤ B.hgt + 2) (d2 : B.hgt ≤ T.hgt + 2) :
    ∃ t : BT, BalOut R (avBal (withR R1 (nodeG R x) x T.root B.root) x).1 (avBal (withR R1 (nodeG R x) x T.root B.root) x).2 (node xm km vm 0 k v r (node x kx vx (max A.hgt B.hgt + 1) k' v' A B)) t ∧ (T.hgt ≤ B.hgt + 1 → B.hgt ≤ T.hgt + 1 → t.hgt = max T.hgt B.hgt + 1) ∧ max T.hgt B.hgt ≤ t.hgt ∧ t.hgt ≤ max T.hgt B.hgt + 1 := by
  obtain ⟨ex, gx⟩ := hX.root_at
  have hx0 := hX.1
  have hA := hX.2.2.2.2.2.2.1
  have hB := hX.2.2.2.2.2.2.2
  obtain ⟨nr, nX, ⟨b1, b2, b3⟩, ⟨a1, a2, a3⟩, ⟨c1, c2, c3⟩, c4⟩ := node_nodup.1 hn
  obtain ⟨mA, mB, ⟨d1', d2', d3'⟩, ⟨e1, e2, e3⟩, ⟨f1, f2, f3⟩, f4⟩ := node_nodup.1 nX
  have hsT := hT.sim.size
  have hkept : ∀ z, z ∈ B.hs ∨ z = x ∨ z = kx ∨ z = vx → z ∉ T.hs := fun z hz => by
    have hzl : z ∈ (node x kx vx (max A.hgt B.hgt + 1) k' v' A B).hs := by
      simp only [hs, List.mem_append, List.mem_cons]
      rcases hz with h | h | h | h <;> simp [h]
    have hz2 : z ≠ xm ∧ z ≠ km ∧ z ≠ vm ∧ z ∉ r.hs := ⟨fun e => a1 (e ▸ hzl), fun e => a2 (e ▸ hzl), fun e => a3 (e ▸ hzl), fun e => c4 z e hzl⟩
    rw [hT.sim.hs]
    intro h; rcases List.mem_append.1 h with h | h
    · exact hz2.2.2.2 h
    · simp only [List.mem_cons] at h
      rcases h with h | h | h | h
      · exact hz2.1 h
      · exact hz2.2.1 h
      · exact hz2.2.2.1 h
      · rcases hz with h' | rfl | rfl | rfl
        · exact f4 z h h'
        · exact d1' h
        · exact d2' h
        · exact d3' h
  have hof : ∀ z, z ∉ T.hs → R1 z = R z := fun z hz => hT.frame z (fun h => hz (by rw [hT.sim.hs]; exact nodes_hs _ _ h))
  have xT := hkept x (by simp)
  have hR1 : R1 0 = none := by
    refine (hT.frame 0 fun h9 => ?_).trans h0
    simp only [nodes, List.mem_append, List.mem_cons] at h9
    rcases h9 with h | h | h
    · exact nodes_zero h0 hr h
    · exact hm0 h.symm
    · exact nodes_zero h0 hA h
  have hK1 : B.At R1 := hB.congr fun z hz => hof z (hkept z (.inl hz))
  have hk : (nodeG R x).key = kx := by rw [gx]
  have hv : (nodeG R x).val = vx := by rw [gx]
  have z1 : (node xm km vm 0 k v r (node x kx vx (max A.hgt B.hgt + 1) k' v' A B)).size = T.size + 1 + B.size := by rw [hsT]; simp only [size]; omega
  have hw := with_bt (R := R1) (nd := nodeG R x) (x := x) (k := k') (v := v') hR1 ((nodeE_congr (hof x xT)).1.trans ex) hx0 hT.at' hK1 hT.avl.mk aK.mk (by omega)
    (by rw [hk]; exact (hof kx (hkept kx (by simp))).trans hX.2.2.1) (by rw [hv]; exact (hof vx (hkept vx (by simp))).trans hX.2.2.2.1) hX.2.2.2.2.1 hX.2.2.2.2.2.1 xT e1 (by rw [hk]; exact f1) (by rw [hv]; exact f2)
  rw [hk, hv] at hw
  have hoth : ∀ u, u ≠ x → withR R1 (nodeG R x) x T.root B.root u = R1 u := fun u hu => withR_other hu
  generalize withR R1 (nodeG R x) x T.root B.root = R2 at *
  have sm : Sim (node xm km vm 0 k v r (node x kx vx (max A.hgt B.hgt + 1) k' v' A B)) (node x kx vx (max T.hgt B.hgt + 1) k' v' T B) :=
    ⟨by simp only [hs, hT.sim.hs, List.append_assoc, List.cons_append], by simp only [nodes, hT.sim.nodes, List.append_assoc, List.cons_append], by simp only [prs, hT.sim.prs, List.append_assoc, List.cons_append]⟩
  obtain ⟨t, o, s6⟩ := bal_bt ((hoth 0 (fun e => hx0 e.symm)).trans hR1) hw (sm.nodup hn) (by rw [sm.size]; omega) hT.avl aK d1 d2
  refine ⟨t, ⟨o.root, o.at', sm.trans o.sim, o.avl, fun z hz => ?_⟩, s6⟩
  rw [o.frame z (sm.mem hz)]
  simp only [nodes, List.mem_append, List.mem_cons, not_or] at hz
  rw [hoth z hz.2.2.2.1]
  exact hT.frame z (by simp only [nodes, List.mem_append, List.mem_cons, not_or]; exact ⟨hz.1, hz.2.1, hz.2.2.1⟩)
theorem join_here {R : Nat → Option (List Nat)} {nd : Nd} {xm : Nat} {k v : ByteArray} {l r : BT} (h0 : R 0 = none) (hl : l.At R) (hr : r.At R) (al : l.Avl) (ar : r.Avl) (em : nodeE R xm = 0) (x0 : xm ≠ 0)
    (hk : R nd.key = some (Tx.wordsL k.data.toList)) (hv : R nd.val = some (Tx.wordsL v.data.toList)) (ks : k.size ≤ 1000) (vs : v.size ≤ 1000) (hn : (node xm nd.key nd.val 0 k v l r).hs.Nodup) (sz : l.size + r.size < 999990) (g1 : l.hgt ≤ r.hgt + 1) (g2 : r.hgt ≤ l.hgt + 1) :
    ∃ t : BT, BalOut R (withR R nd xm l.root r.root) xm (node xm nd.key nd.val 0 k v l r) t ∧ max l.hgt r.hgt ≤ t.hgt ∧ t.hgt ≤ max l.hgt r.hgt + 1 := by
  obtain ⟨nA, nB, ⟨a1, a2, a3⟩, ⟨b1, b2, b3⟩, ⟨c1, c2, c3⟩, c4⟩ := node_nodup.1 hn
  have hw := with_bt (nd := nd) h0 em x0 hl hr al.mk ar.mk (by omega) hk hv ks vs a1 b1 c1 c2
  refine ⟨_, ⟨rfl, hw, sim_in (Sim.refl l) (Sim.refl r), ⟨rfl, g1, g2, al, ar⟩, fun z hz => ?_⟩, Nat.le_succ _, Nat.le_refl _⟩
  simp only [nodes, List.mem_append, List.mem_cons, not_or] at hz
  exact withR_other hz.2.1
theorem join_bt {R : Nat → Option (List Nat)} {nd : Nd} {xm : Nat} {k v : ByteArray} : ∀ (f : Nat) (l r : BT), R 0 = none → l.At R → r.At R → l.Avl → r.Avl → nodeE R xm = 0 → xm ≠ 0 →
    R nd.key = some (Tx.wordsL k.data.toList) → R nd.val = some (Tx.wordsL v.data.toList) → k.size ≤ 1000 → v.size ≤ 1000 → (node xm nd.key nd.val 0 k v l r).hs.Nodup → l.size + r.size < 999980 → l.hgt + r.hgt ≤ f →
    ∃ t : BT, BalOut R (avJoin nd xm f R l.root r.root).1 (avJoin nd xm f R l.root r.root).2 (node xm nd.key nd.val 0 k v l r) t ∧ max l.hgt r.hgt ≤ t.hgt ∧ t.hgt ≤ max l.hgt r.hgt + 1 := by
  intro f
  induction f with
  | zero =>
    intro l r h0 hl hr al ar em x0 hk hv ks vs hn sz hf
    exact join_here h0 hl hr al ar em x0 hk hv ks vs hn (by omega) (by omega) (by omega)
  | succ f ih =>
    intro l r h0 hl hr al ar em x0 hk hv ks vs hn sz hf
    have e1 : avH R l.root = (l.hgt : Nat) := avH_at hl h0 al.mk (by omega)
    have e2 : avH R r.root = (r.hgt : Nat) := avH_at hr h0 ar.mk (by omega)
    have l1 := hgt_le l
    have l2 := hgt_le r
    have e3 : wrap64 ((r.hgt : Nat) + 1 : Int) = (r.hgt : Int) + 1 := IntWalk.wrap64_in _ (by omega)
    have e4 : wrap64 ((l.hgt : Nat) + 1 : Int) = (l.hgt : Int) + 1 := IntWalk.wrap64_in _ (by omega)
    rw [avJoin, e1, e2, e3, e4]
    clear e1 e2 e3 e4 l1 l2
    by_cases q1 : r.hgt + 1 < l.hgt
    · rw [if_pos (by omega)]
      obtain ⟨x, kx, vx, mx, k', v', A, B, rfl⟩ := hgt_pos (t := l) (by omega)
      obtain ⟨rfl, g1, g2, aA, aB⟩ := al
      obtain ⟨_, gx⟩ := hl.root_at
      have hgl : (nodeG R x).left = A.root := by rw [gx]
      have hgr : (nodeG R x).right = B.root := by rw [gx]
      rw [show (node x kx vx (max A.hgt B.hgt + 1) k' v' A B).root = x from rfl, hgl, hgr]
      obtain ⟨nX, nr, ⟨a1, a2, a3⟩, ⟨b1, b2, b3⟩, cc, c4⟩ := node_nodup.1 hn
      obtain ⟨mA, mB, _, _, _, f4⟩ := node_nodup.1 nX
      have hin : ∀ z ∈ B.hs, z ∈ (node x kx vx (max A.hgt B.hgt + 1) k' v' A B).hs := fun z hz => by simp [hs, hz]
      have nn : (node xm nd.key nd.val 0 k v B r).hs.Nodup := node_nodup.2 ⟨mB, nr, ⟨fun e => a1 (hin _ e), fun e => a2 (hin _ e), fun e => a3 (hin _ e)⟩, ⟨b1, b2, b3⟩, cc, fun z hz => c4 z (hin z hz)⟩
      have hle : B.hgt + r.hgt ≤ f := by
        have h9 : max A.hgt B.hgt + 1 + r.hgt ≤ f + 1 := hf
        have := Nat.le_max_right A.hgt B.hgt
        omega
      obtain ⟨T, o, t6, t7⟩ := ih B r h0 hl.2.2.2.2.2.2.2 hr aB ar em x0 hk hv ks vs nn (by simp only [size] at sz; omega) hle
      obtain ⟨j1, j2, j3⟩ := jr1 q1 g1 g2 t6 t7
      rw [o.root]
      obtain ⟨t, p, s6, s7, s8⟩ := join_l h0 hl hr x0 aA hn (by simp only [size] at sz ⊢; omega) o j1 j2
      exact ⟨t, p, j3 _ s6 s7 s8⟩
    · rw [if_neg (by omega)]
      by_cases q2 : l.hgt + 1 < r.hgt
      · rw [if_pos (by omega)]
        obtain ⟨x, kx, vx, mx, k', v', A, B, rfl⟩ := hgt_pos (t := r) (by omega)
        obtain ⟨rfl, g1, g2, aA, aB⟩ := ar
        obtain ⟨_, gx⟩ := hr.root_at
        have hgl : (nodeG R x).left = A.root := by rw [gx]
        have hgr : (nodeG R x).right = B.root := by rw [gx]
        rw [show (node x kx vx (max A.hgt B.hgt + 1) k' v' A B).root = x from rfl, hgl, hgr]
        obtain ⟨nr, nX, ⟨b1, b2, b3⟩, ⟨a1, a2, a3⟩, cc, c4⟩ := node_nodup.1 hn
        obtain ⟨mA, mB, _, _, _, f4⟩ := node_nodup.1 nX
        have hin : ∀ z ∈ A.hs, z ∈ (node x kx vx (max A.hgt B.hgt + 1) k' v' A B).hs := fun z hz => by simp [hs, hz]
        have nn : (node xm nd.key nd.val 0 k v l A).hs.Nodup := node_nodup.2 ⟨nr, mA, ⟨b1, b2, b3⟩, ⟨fun e => a1 (hin _ e), fun e => a2 (hin _ e), fun e => a3 (hin _ e)⟩, cc, fun z hz hz' => c4 z hz (hin z hz')⟩
        have hle : l.hgt + A.hgt ≤ f := by
          have h9 : l.hgt + (max A.hgt B.hgt + 1) ≤ f + 1 := hf
          have := Nat.le_max_left A.hgt B.hgt
          omega
        obtain ⟨T, o, t6, t7⟩ := ih l A h0 hl hr.2.2.2.2.2.2.1 al aA em x0 hk hv ks vs nn (by simp only [size] at sz; omega) hle
        obtain ⟨j1, j2, j3⟩ := jr2 q2 g1 g2 t6 t7
        rw [o.root]
        obtain ⟨t, p, s6, s7, s8⟩ := join_r h0 hr hl x0 aB hn (by simp only [size] at sz ⊢; omega) o j1 j2
        exact ⟨t, p, j3 _ s6 s7 s8⟩
      · rw [if_neg (by omega)]
        exact join_here h0 hl hr al ar em x0 hk hv ks vs hn (by omega) (by omega) (by omega)
end
end BT
end Go.Proofs.YtijpmjaeanocpaaGreatDoor

set_option linter.unusedVariables false
set_option linter.unusedSimpArgs false
namespace Go.Proofs.YtijpmjaeanocpaaGreatDoor
open Go.RowKit Go.Shelf
def rbB (R : Nat → Option (List Nat)) (x : Nat) : Nat := (nodeG R x).mark / 2
def rbRed (R : Nat → Option (List Nat)) (x : Nat) : Bool := (nodeG R x).mark % 2 == 1
def rbMark (b : Nat) (red : Bool) : Nat := if red then 2 * b + 1 else (2 * b + 2) % 18446744073709551616
def rbN (R : Nat → Option (List Nat)) (x l r : Nat) (red : Bool) : Nd :=
  ⟨(nodeG R x).key, (nodeG R x).val, l, r, rbMark (rbB R l) red, toU (wrap64 (wrap64 (tsizeR R l + tsizeR R r) + 1))⟩
def rbPut (R : Nat → Option (List Nat)) (x l r : Nat) (red : Bool) : Nat → Option (List Nat) := putN R x (rbN R x l r red)
def rbSides (R : Nat → Option (List Nat)) (tn : Bool) (x : Nat) : Nat × Nat := if tn then ((nodeG R x).right, (nodeG R x).left) else ((nodeG R x).left, (nodeG R x).right)
def rbPutT (R : Nat → Option (List Nat)) (tn : Bool) (x other own : Nat) (red : Bool) : Nat → Option (List Nat) := if tn then rbPut R x own other red else rbPut R x other own red
def rbJoin (tn : Bool) (m low : Nat) : Nat → (Nat → Option (List Nat)) → Nat → (Nat → Option (List Nat)) × Nat
  | 0, R, t => (rbPutT R tn m t low true, m)
  | f + 1, R, t =>
    if rbRed R t = false ∧ rbB R t = rbB R low then (rbPutT R tn m t low true, m)
    else
      let p := rbJoin tn m low f R (rbSides R tn t).2
      let R1 := rbPutT p.1 tn t (rbSides R tn t).1 p.2 (rbRed R t)
      if rbRed R t = true ∨ rbRed R1 p.2 = false then (R1, t)
      else
        let ab := rbSides R1 tn p.2
        if rbRed R1 ab.2 = false then (R1, t)
        else
          let cd := rbSides R1 tn ab.2
          let R2 := rbPutT R1 tn ab.2 cd.1 cd.2 false
          let R3 := rbPutT R2 tn t (rbSides R tn t).1 ab.1 false
          (rbPutT R3 tn p.2 t ab.2 true, p.2)
def rbTop (tn : Bool) (R : Nat → Option (List Nat)) (t m low : Nat) : (Nat → Option (List Nat)) × Nat :=
  let p := rbJoin tn m low 200 R t
  if rbRed p.1 p.2 = true ∧ rbRed p.1 (rbSides p.1 tn p.2).2 = true then (rbPutT p.1 tn p.2 (rbSides p.1 tn p.2).1 (rbSides p.1 tn p.2).2 false, p.2)
  else p
def rbAll (R : Nat → Option (List Nat)) (l m r : Nat) : (Nat → Option (List Nat)) × Nat :=
  if rbB R r < rbB R l then rbTop false R l m r
  else if rbB R l < rbB R r then rbTop true R r m l
  else (rbPut R m l r (!rbRed R l && !rbRed R r), m)
theorem rbPut_keeps (R : Nat → Option (List Nat)) (x l r : Nat) (red : Bool) : KeepsN R (rbPut R x l r red) := KeepsN.put fun _ => ⟨rfl, rfl⟩
theorem rbPutT_keeps (R : Nat → Option (List Nat)) (tn : Bool) (x l r : Nat) (red : Bool) : KeepsN R (rbPutT R tn x l r red) := by
  unfold rbPutT
  split <;> exact rbPut_keeps _ _ _ _ _
theorem rbJoin_keeps (tn : Bool) (m low : Nat) : ∀ (f : Nat) (R : Nat → Option (List Nat)) (t : Nat), KeepsN R (rbJoin tn m low f R t).1
  | 0, R, t => rbPutT_keeps _ _ _ _ _ _
  | f + 1, R, t => by
    rw [rbJoin]
    have h1 := (rbJoin_keeps tn m low f R (rbSides R tn t).2).trans (rbPutT_keeps _ tn t (rbSides R tn t).1 (rbJoin tn m low f R (rbSides R tn t).2).2 (rbRed R t))
    split
    · exact rbPutT_keeps _ _ _ _ _ _
    · simp only
      split
      · exact h1
      · split
        · exact h1
        · exact ((h1.trans (rbPutT_keeps _ _ _ _ _ _)).trans (rbPutT_keeps _ _ _ _ _ _)).trans (rbPutT_keeps _ _ _ _ _ _)
theorem rbTop_keeps (tn : Bool) (R : Nat → Option (List Nat)) (t m low : Nat) : KeepsN R (rbTop tn R t m low).1 := by
  unfold rbTop
  simp only
  split
  · exact (rbJoin_keeps tn m low 200 R t).trans (rbPutT_keeps _ _ _ _ _ _)
  · exact rbJoin_keeps tn m low 200 R t
theorem rbAll_keeps (R : Nat → Option (List Nat)) (l m r : Nat) : KeepsN R (rbAll R l m r).1 := by
  unfold rbAll
  split
  · exact rbTop_keeps _ _ _ _ _
  · split
    · exact rbTop_keeps _ _ _ _ _
    · exact rbPut_keeps _ _ _ _ _
end Go.Proofs.YtijpmjaeanocpaaGreatDoor

set_option linter.unusedVariables false
set_option linter.unusedSimpArgs false
namespace Go.Proofs.YtijpmjaeanocpaaGreatDoor
open Go.RowKit Go.Shelf
namespace BT
def bh (t : BT) : Nat := t.mk / 2
def red (t : BT) : Bool := t.mk % 2 == 1
def nodeT (tn : Bool) (x kx vx m : Nat) (k v : ByteArray) (other own : BT) : BT := if tn then node x kx vx m k v own other else node x kx vx m k v other own
def RB : BT → Prop
  | nil => True
  | node _ _ _ m _ _ l r => (m = 2 * l.bh + 2 ∨ (m = 2 * l.bh + 1 ∧ l.red = false ∧ r.red = false)) ∧ l.bh = r.bh ∧ l.RB ∧ r.RB
theorem bh_hgt : ∀ {t : BT}, t.RB → t.bh ≤ t.hgt
  | nil, _ => Nat.le_refl _
  | node x kx vx m k v l r, ⟨h1, h2, h3, h4⟩ => by
    have e1 := bh_hgt h3
    show m / 2 ≤ max l.hgt r.hgt + 1
    rcases h1 with h | ⟨h, _⟩ <;> omega
section
variable {R : Nat → Option (List Nat)} {tn : Bool} {x kx vx m : Nat} {k v : ByteArray} {a b : BT}
theorem nodeT_root : (nodeT tn x kx vx m k v a b).root = x := by unfold nodeT; split <;> rfl
theorem nodeT_mk : (nodeT tn x kx vx m k v a b).mk = m := by unfold nodeT; split <;> rfl
theorem nodeT_size : (nodeT tn x kx vx m k v a b).size = a.size + 1 + b.size := by
  unfold nodeT
  split
  · simp only [size]; omega
  · simp only [size]
theorem nodeT_hgt : (nodeT tn x kx vx m k v a b).hgt = max a.hgt b.hgt + 1 := by
  unfold nodeT
  split
  · simp only [hgt]; rw [Nat.max_comm]
  · simp only [hgt]
theorem nodeT_mem {z : Nat} : z ∈ (nodeT tn x kx vx m k v a b).hs ↔ z ∈ a.hs ∨ z = x ∨ z = kx ∨ z = vx ∨ z ∈ b.hs := by
  unfold nodeT
  split
  · simp only [hs, List.mem_append, List.mem_cons]
    constructor
    · rintro (h | h | h | h | h) <;> simp [h]
    · rintro (h | h | h | h | h) <;> simp [h]
  · simp only [hs, List.mem_append, List.mem_cons]
theorem nodeT_nodes {z : Nat} : z ∈ (nodeT tn x kx vx m k v a b).nodes ↔ z ∈ a.nodes ∨ z = x ∨ z ∈ b.nodes := by
  unfold nodeT
  split
  · simp only [nodes, List.mem_append, List.mem_cons]
    constructor
    · rintro (h | h | h) <;> simp [h]
    · rintro (h | h | h) <;> simp [h]
  · simp only [nodes, List.mem_append, List.mem_cons]
theorem nodeT_nodup : (nodeT tn x kx vx m k v a b).hs.Nodup ↔ a.hs.Nodup ∧ b.hs.Nodup ∧ (x ∉ a.hs ∧ kx ∉ a.hs ∧ vx ∉ a.hs) ∧ (x ∉ b.hs ∧ kx ∉ b.hs ∧ vx ∉ b.hs) ∧ (x ≠ kx ∧ x ≠ vx ∧ kx ≠ vx) ∧ ∀ z ∈ a.hs, z ∉ b.hs := by
  unfold nodeT
  split
  · rw [node_nodup]
    constructor
    · rintro ⟨h1, h2, h3, h4, h5, h6⟩; exact ⟨h2, h1, h4, h3, h5, fun z hz hz' => h6 z hz' hz⟩
    · rintro ⟨h1, h2, h3, h4, h5, h6⟩; exact ⟨h2, h1, h4, h3, h5, fun z hz hz' => h6 z hz' hz⟩
  · exact node_nodup
def ndT (tn : Bool) (kx vx m : Nat) (a b : BT) : Nd := if tn then ⟨kx, vx, b.root, a.root, m, b.size + 1 + a.size⟩ else ⟨kx, vx, a.root, b.root, m, a.size + 1 + b.size⟩
theorem nodeT_at : (nodeT tn x kx vx m k v a b).At R ↔ x ≠ 0 ∧ R x = some (ndT tn kx vx m a b).ws ∧ R kx = some (Tx.wordsL k.data.toList) ∧ R vx = some (Tx.wordsL v.data.toList) ∧ k.size ≤ 1000 ∧ v.size ≤ 1000 ∧ a.At R ∧ b.At R := by
  unfold nodeT ndT
  split
  · simp only [At]
    constructor
    · rintro ⟨h1, h2, h3, h4, h5, h6, h7, h8⟩; exact ⟨h1, h2, h3, h4, h5, h6, h8, h7⟩
    · rintro ⟨h1, h2, h3, h4, h5, h6, h7, h8⟩; exact ⟨h1, h2, h3, h4, h5, h6, h8, h7⟩
  · rfl
theorem nodeT_g (h : (nodeT tn x kx vx m k v a b).At R) : nodeE R x = 0 ∧ (nodeG R x).key = kx ∧ (nodeG R x).val = vx ∧ (nodeG R x).mark = m ∧ rbSides R tn x = (a.root, b.root) := by
  obtain ⟨e1, e2⟩ := nodeR_at (nodeT_at.1 h).2.1
  unfold rbSides
  rw [e2]
  unfold ndT
  cases tn <;> exact ⟨e1, rfl, rfl, rfl, rfl⟩
theorem nodeT_RB : (nodeT tn x kx vx m k v a b).RB ↔ (m = 2 * a.bh + 2 ∨ (m = 2 * a.bh + 1 ∧ a.red = false ∧ b.red = false)) ∧ a.bh = b.bh ∧ a.RB ∧ b.RB := by
  unfold nodeT
  split
  · simp only [RB]
    constructor
    · rintro ⟨h1, h2, h3, h4⟩
      refine ⟨?_, h2.symm, h4, h3⟩
      rw [← h2]
      rcases h1 with h | ⟨h, p, q⟩
      · exact .inl h
      · exact .inr ⟨h, q, p⟩
    · rintro ⟨h1, h2, h3, h4⟩
      refine ⟨?_, h2.symm, h4, h3⟩
      rw [← h2]
      rcases h1 with h | ⟨h, p, q⟩
      · exact .inl h
      · exact .inr ⟨h, q, p⟩
  · rfl
theorem nodeT_bh : (nodeT tn x kx vx m k v a b).bh = m / 2 := by unfold bh; rw [nodeT_mk]
theorem nodeT_red : (nodeT tn x kx vx m k v a b).red = (m % 2 == 1) := by unfold red; rw [nodeT_mk]
theorem nodeT_cases (tn : Bool) {t : BT} (h : t ≠ nil) : ∃ x kx vx m k v a b, t = nodeT tn x kx vx m k v a b := by
  cases t with
  | nil => exact absurd rfl h
  | node x kx vx m k v l r =>
    cases tn
    · exact ⟨x, kx, vx, m, k, v, l, r, rfl⟩
    · exact ⟨x, kx, vx, m, k, v, r, l, rfl⟩
theorem rbB_at {t : BT} (ht : t.At R) (h0 : R 0 = none) : rbB R t.root = t.bh ∧ rbRed R t.root = t.red := by
  unfold rbB rbRed bh red
  cases t with
  | nil => rw [root, nodeG_zero h0]; exact ⟨rfl, rfl⟩
  | node x kx vx m k v l r => rw [root, (nodeR_at ht.2.1).2]; exact ⟨rfl, rfl⟩
theorem nodeT_simT {x' kx' vx' m' m1 m1' : Nat} {k' v' : ByteArray} {c : BT} : Sim (nodeT tn x kx vx m k v a (nodeT tn x' kx' vx' m' k' v' b c)) (nodeT tn x' kx' vx' m1' k' v' (nodeT tn x kx vx m1 k v a b) c) := by
  unfold nodeT
  cases tn
  · exact sim_left
  · exact sim_right
theorem nodeT_in {a' b' : BT} {m' : Nat} (h : Sim a a') (h' : Sim b b') : Sim (nodeT tn x kx vx m k v a b) (nodeT tn x kx vx m' k v a' b') := by
  unfold nodeT
  cases tn
  · exact sim_in h h'
  · exact sim_in h' h
theorem rbPut_other {x y l r : Nat} {red : Bool} (h : y ≠ x) : rbPutT R tn x l r red y = R y := by
  unfold rbPutT
  split <;> exact putN_other h
structure Lo (R : Nat → Option (List Nat)) (x kx vx : Nat) (k v : ByteArray) : Prop where
  nz : x ≠ 0
  e : nodeE R x = 0
  key : (nodeG R x).key = kx
  val : (nodeG R x).val = vx
  kt : R kx = some (Tx.wordsL k.data.toList)
  vt : R vx = some (Tx.wordsL v.data.toList)
  ks : k.size ≤ 1000
  vs : v.size ≤ 1000
theorem Lo.of (h : (nodeT tn x kx vx m k v a b).At R) : Lo R x kx vx k v := by
  obtain ⟨g1, g2, g3, g4, g5⟩ := nodeT_g h
  obtain ⟨h1, h2, h3, h4, h5, h6, h7, h8⟩ := nodeT_at.1 h
  exact ⟨h1, g1, g2, g3, h3, h4, h5, h6⟩
theorem Lo.congr {R' : Nat → Option (List Nat)} (h : Lo R x kx vx k v) (hx : R' x = R x) (hk : R' kx = R kx) (hv : R' vx = R vx) : Lo R' x kx vx k v := by
  obtain ⟨e1, e2⟩ := nodeE_congr hx
  exact ⟨h.nz, e1.trans h.e, by rw [e2]; exact h.key, by rw [e2]; exact h.val, hk.trans h.kt, hv.trans h.vt, h.ks, h.vs⟩
theorem put_bt {rd : Bool} (h0 : R 0 = none) (hx : Lo R x kx vx k v) (ha : a.At R) (hb : b.At R) (hab : a.bh = b.bh) (hba : a.bh < 1000000) (hsz : a.size + b.size < 999999)
    (xa : x ∉ a.hs) (xb : x ∉ b.hs) (xk : x ≠ kx) (xv : x ≠ vx) :
    (nodeT tn x kx vx (if rd then 2 * a.bh + 1 else 2 * a.bh + 2) k v a b).At (rbPutT R tn x a.root b.root rd) := by
  obtain ⟨x0, hx, rfl, rfl, hk, hv, ks, vs⟩ := hx
  have l1 := hgt_le a
  have e : ∀ (p q : BT), p.At R → q.At R → p.bh = a.bh → p.size + q.size < 999999 → rbN R x p.root q.root rd = ⟨(nodeG R x).key, (nodeG R x).val, p.root, q.root, if rd then 2 * a.bh + 1 else 2 * a.bh + 2, p.size + 1 + q.size⟩ := by
    intro p q hp hq hpa hs
    unfold rbN
    rw [(rbB_at hp h0).1, hpa, tsize_at hp h0 (by omega), tsize_at hq h0 (by omega)]
    rw [show ((p.size : Nat) : Int) + (q.size : Nat) = ((p.size + q.size : Nat) : Int) by omega, show wrap64 ((p.size + q.size : Nat) : Int) = ((p.size + q.size : Nat) : Int) from IntWalk.wrap64_in _ (by omega)]
    rw [show ((p.size + q.size : Nat) : Int) + 1 = ((p.size + 1 + q.size : Nat) : Int) by omega, toU_nat _ (by omega)]
    unfold rbMark
    cases rd
    · rw [if_neg (by simp), if_neg (by simp), Nat.mod_eq_of_lt (by omega)]
    · rfl
  refine nodeT_at.2 ⟨x0, ?_, ?_, ?_, ks, vs, ha.congr fun z hz => rbPut_other (fun e => xa (e ▸ hz)), hb.congr fun z hz => rbPut_other (fun e => xb (e ▸ hz))⟩
  · unfold rbPutT rbPut ndT
    cases tn
    · rw [if_neg (by simp), if_neg (by simp), putN_same hx, e a b ha hb rfl hsz]
    · rw [if_pos rfl, if_pos rfl, putN_same hx, e b a hb ha hab.symm (by omega)]
  · rw [rbPut_other (fun e => xk e.symm), hk]
  · rw [rbPut_other (fun e => xv e.symm), hv]
def W1 (tn : Bool) (T : BT) : Prop := ∃ x kx vx m k v a b, T = nodeT tn x kx vx m k v a b ∧ a.bh = b.bh ∧ a.RB ∧ b.RB ∧ (m = 2 * a.bh + 2 ∨ (m = 2 * a.bh + 1 ∧ a.red = false))
def W2 (tn : Bool) (Q : BT → Prop) (T : BT) : Prop := ∃ x kx vx m k v a b, T = nodeT tn x kx vx m k v a b ∧ a.bh = b.bh ∧ a.RB ∧ m = 2 * a.bh + 1 ∧ a.red = false ∧ Q b
theorem W1.rb {T : BT} (h : W1 tn T) (hr : T.red = false) : T.RB := by
  obtain ⟨x, kx, vx, m, k, v, a, b, rfl, h1, h2, h3, h4⟩ := h
  rw [nodeT_red] at hr
  refine nodeT_RB.2 ⟨.inl ?_, h1, h2, h3⟩
  rcases h4 with h | ⟨h, _⟩
  · exact h
  · rw [h] at hr; simp at hr
theorem RB.w1 {T : BT} (h : T.RB) (hn : T ≠ nil) : W1 tn T := by
  obtain ⟨x, kx, vx, m, k, v, a, b, rfl⟩ := nodeT_cases tn hn
  obtain ⟨h1, h2, h3, h4⟩ := nodeT_RB.1 h
  refine ⟨_, _, _, _, _, _, _, _, rfl, h2, h3, h4, ?_⟩
  rcases h1 with h | ⟨h, p, _⟩
  · exact .inl h
  · exact .inr ⟨h, p⟩
theorem W2.red {T : BT} {Q : BT → Prop} (h : W2 tn Q T) : T.red = true := by
  obtain ⟨x, kx, vx, m, k, v, a, b, rfl, h1, h2, h3, h4⟩ := h
  rw [nodeT_red, h3]
  simp
theorem W1.ne {T : BT} (h : W1 tn T) : T ≠ nil := by
  obtain ⟨x, kx, vx, m, k, v, a, b, rfl, _⟩ := h
  unfold nodeT
  split <;> simp
theorem red_parts {T : BT} (hr : T.red = true) (h : W1 tn T ∨ W2 tn (W1 tn) T) :
    ∃ x kx vx m k v a b, T = nodeT tn x kx vx m k v a b ∧ a.bh = b.bh ∧ a.RB ∧ m = 2 * a.bh + 1 ∧ a.red = false ∧ (b.RB ∨ W1 tn b) := by
  rcases h with ⟨x, kx, vx, m, k, v, a, b, rfl, h1, h2, h3, h4⟩ | ⟨x, kx, vx, m, k, v, a, b, rfl, h1, h2, h3, h4, h5⟩
  · refine ⟨_, _, _, _, _, _, _, _, rfl, h1, h2, ?_⟩
    rcases h4 with h | ⟨h, p⟩
    · rw [nodeT_red, h] at hr; simp at hr
    · exact ⟨h, p, .inl h3⟩
  · exact ⟨_, _, _, _, _, _, _, _, rfl, h1, h2, h3, h4, .inr h5⟩
theorem red_parts2 {T : BT} (hr : T.red = true) (h : T.RB ∨ W1 tn T) : ∃ x kx vx m k v a b, T = nodeT tn x kx vx m k v a b ∧ a.bh = b.bh ∧ a.RB ∧ b.RB ∧ m = 2 * a.bh + 1 := by
  have hn : T ≠ nil := fun e => by rw [e] at hr; cases hr
  have hw : W1 tn T := by
    rcases h with h | h
    · exact h.w1 hn
    · exact h
  obtain ⟨x, kx, vx, m, k, v, a, b, rfl, h1, h2, h3, h4⟩ := hw
  refine ⟨_, _, _, _, _, _, _, _, rfl, h1, h2, h3, ?_⟩
  rcases h4 with h | ⟨h, _⟩
  · rw [nodeT_red, h] at hr; simp at hr
  · exact h
end
end BT
end Go.Proofs.YtijpmjaeanocpaaGreatDoor

set_option linter.unusedVariables false
set_option linter.unusedSimpArgs false
namespace Go.Proofs.YtijpmjaeanocpaaGreatDoor
open Go.RowKit Go.Shelf
namespace BT
section
variable {tn : Bool}
theorem bh_small {t : BT} (h : t.RB) (hs : t.size < 999990) : t.bh < 1000000 := by
  have := bh_hgt h
  have := hgt_le t
  omega
set_option maxHeartbeats 2000000 in
theorem rbJoin_bt {xm km vm : Nat} {k v : ByteArray} {low : BT} : ∀ (f : Nat) (R : Nat → Option (List Nat)) (t : BT), R 0 = none → t.At R → low.At R → t.RB → low.RB → low.bh ≤ t.bh → Lo R xm km vm k v →
    (nodeT tn xm km vm 0 k v t low).hs.Nodup → t.size + low.size < 999980 → t.hgt ≤ f →
    ∃ T : BT, (rbJoin tn xm low.root f R t.root).2 = T.root ∧ T.At (rbJoin tn xm low.root f R t.root).1 ∧ Sim (nodeT tn xm km vm 0 k v t low) T ∧ (∀ z, z ∉ (nodeT tn xm km vm 0 k v t low).nodes → (rbJoin tn xm low.root f R t.root).1 z = R z) ∧ T.bh = t.bh ∧
      (t.red = false → W1 tn T ∧ (low.bh < t.bh → T.RB)) ∧ (t.red = true → W2 tn (W1 tn) T ∧ (low.bh < t.bh → W2 tn RB T)) := by
  intro f
  have base : ∀ (R : Nat → Option (List Nat)) (t : BT), R 0 = none → t.At R → low.At R → t.RB → low.RB → Lo R xm km vm k v → (nodeT tn xm km vm 0 k v t low).hs.Nodup → t.size + low.size < 999980 → t.red = false → t.bh = low.bh →
      ∃ T : BT, xm = T.root ∧ T.At (rbPutT R tn xm t.root low.root true) ∧ Sim (nodeT tn xm km vm 0 k v t low) T ∧ (∀ z, z ∉ (nodeT tn xm km vm 0 k v t low).nodes → rbPutT R tn xm t.root low.root true z = R z) ∧ T.bh = t.bh ∧
        (t.red = false → W1 tn T ∧ (low.bh < t.bh → T.RB)) ∧ (t.red = true → W2 tn (W1 tn) T ∧ (low.bh < t.bh → W2 tn RB T)) := by
    intro R t h0 ht hl rt rl hm hn sz e1 e2
    obtain ⟨nA, nB, ⟨a1, a2, a3⟩, ⟨b1, b2, b3⟩, ⟨c1, c2, c3⟩, c4⟩ := nodeT_nodup.1 hn
    have hp := put_bt (tn := tn) (rd := true) h0 hm ht hl e2 (bh_small rt (by omega)) (by omega) a1 b1 c1 c2
    rw [if_pos rfl] at hp
    refine ⟨_, nodeT_root.symm, hp, nodeT_in (Sim.refl t) (Sim.refl low), fun z hz => ?_, ?_, fun _ => ⟨⟨_, _, _, _, _, _, _, _, rfl, e2, rt, rl, .inr ⟨rfl, e1⟩⟩, fun h => by omega⟩, fun h => by rw [e1] at h; cases h⟩
    · rw [nodeT_nodes] at hz
      exact rbPut_other (fun e => hz (.inr (.inl e)))
    · rw [nodeT_bh]; omega
  induction f with
  | zero =>
    intro R t h0 ht hl rt rl hbh hm hn sz hf
    have ht0 : t = nil := by
      cases t with
      | nil => rfl
      | node x kx vx m k v l r => simp only [hgt] at hf; omega
    subst ht0
    exact base R nil h0 ht hl rt rl hm hn sz rfl (by have : (nil : BT).bh = 0 := rfl; omega)
  | succ f ih =>
    intro R t h0 ht hl rt rl hbh hm hn sz hf
    rw [rbJoin, (rbB_at ht h0).1, (rbB_at ht h0).2, (rbB_at hl h0).1]
    by_cases hc : t.red = false ∧ t.bh = low.bh
    · rw [if_pos hc]
      exact base R t h0 ht hl rt rl hm hn sz hc.1 hc.2
    · rw [if_neg hc]
      have hne : t ≠ nil := fun e => hc (by subst e; exact ⟨rfl, by have : (nil : BT).bh = 0 := rfl; omega⟩)
      obtain ⟨x, kx, vx, m, k', v', A, B, rfl⟩ := nodeT_cases tn hne
      obtain ⟨g1, g2, g3, g4, g5⟩ := nodeT_g ht
      obtain ⟨x0, hx, hkx, hvx, kx1, vx1, hA, hB⟩ := nodeT_at.1 ht
      obtain ⟨rm, rAB, rA, rB⟩ := nodeT_RB.1 rt
      have hLx := Lo.of ht
      obtain ⟨nt, nl, ⟨a1, a2, a3⟩, ⟨b1, b2, b3⟩, ⟨c1, c2, c3⟩, c4⟩ := nodeT_nodup.1 hn
      obtain ⟨mA, mB, ⟨d1, d2, d3⟩, ⟨e1, e2, e3⟩, ⟨f1, f2, f3⟩, f4⟩ := nodeT_nodup.1 nt
      rw [nodeT_root, g5, nodeT_red]
      rw [nodeT_red, nodeT_bh] at hc
      rw [nodeT_bh] at hbh ⊢
      rw [nodeT_size] at sz
      rw [nodeT_hgt] at hf
      simp only
      have hlB : low.bh ≤ B.bh := by
        rcases rm with h | ⟨h, _⟩
        · have : (m % 2 == 1) = false := by rw [h]; simp
          have h2 : ¬ m / 2 = low.bh := fun e => hc ⟨this, e⟩
          omega
        · omega
      have hnin : ∀ z, z ∈ A.hs ∨ z = x ∨ z = kx ∨ z = vx ∨ z ∈ B.hs → z ≠ xm ∧ z ≠ km ∧ z ≠ vm ∧ z ∉ low.hs := fun z hz => by
        have hzl := nodeT_mem (tn := tn) (m := m) (k := k') (v := v').2 hz
        exact ⟨fun e => a1 (e ▸ hzl), fun e => a2 (e ▸ hzl), fun e => a3 (e ▸ hzl), c4 z hzl⟩
      have hnB : ∀ z, z ∈ B.hs → z ≠ xm ∧ z ≠ km ∧ z ≠ vm ∧ z ∉ low.hs := fun z hz => hnin z (.inr (.inr (.inr (.inr hz))))
      have nn : (nodeT tn xm km vm 0 k v B low).hs.Nodup := nodeT_nodup.2 ⟨mB, nl, ⟨fun e => (hnB _ e).1 rfl, fun e => (hnB _ e).2.1 rfl, fun e => (hnB _ e).2.2.1 rfl⟩, ⟨b1, b2, b3⟩, ⟨c1, c2, c3⟩, fun z hz => (hnB z hz).2.2.2⟩
      obtain ⟨T1, t1, t2, t3, t5, t6, t7, t8⟩ := ih R B h0 hB hl rB rl hlB hm nn (by omega) (by omega)
      rw [t1]
      have hnT : ∀ z, z ∈ A.hs ∨ z = x ∨ z = kx ∨ z = vx → z ∉ T1.hs := fun z hz => by
        rw [t3.hs, nodeT_mem]
        have hz2 := hnin z (by rcases hz with h | h | h | h <;> simp [h])
        rintro (h | h | h | h | h)
        · rcases hz with h' | rfl | rfl | rfl
          · exact f4 z h' h
          · exact e1 h
          · exact e2 h
          · exact e3 h
        · exact hz2.1 h
        · exact hz2.2.1 h
        · exact hz2.2.2.1 h
        · exact hz2.2.2.2 h
      have hof : ∀ z, z ∉ T1.hs → (rbJoin tn xm low.root f R B.root).1 z = R z := fun z hz => t5 z (fun h => hz (by rw [t3.hs]; exact nodes_hs _ _ h))
      have hsT := t3.size
      rw [nodeT_size] at hsT
      have xT := hnT x (by simp)
      have hR1 : (rbJoin tn xm low.root f R B.root).1 0 = none := by
        refine (t5 0 fun h9 => ?_).trans h0
        rcases nodeT_nodes.1 h9 with h | h | h
        · exact nodes_zero h0 hB h
        · exact hm.nz h.symm
        · exact nodes_zero h0 hl h
      have hA1 : A.At (rbJoin tn xm low.root f R B.root).1 := hA.congr fun z hz => hof z (hnT z (.inl hz))
      have hL1 : Lo (rbJoin tn xm low.root f R B.root).1 x kx vx k' v' := hLx.congr (hof x xT) (hof kx (hnT kx (by simp))) (hof vx (hnT vx (by simp)))
      have hp := put_bt (tn := tn) (rd := m % 2 == 1) hR1 hL1 hA1 t2 (rAB.trans t6.symm) (bh_small rA (by omega)) (by omega) d1 xT f1 f2
      have hoth : ∀ u, u ≠ x → rbPutT (rbJoin tn xm low.root f R B.root).1 tn x A.root T1.root (m % 2 == 1) u = (rbJoin tn xm low.root f R B.root).1 u := fun u hu => rbPut_other hu
      have hframe : ∀ z, z ∉ (nodeT tn xm km vm 0 k v (nodeT tn x kx vx m k' v' A B) low).nodes → rbPutT (rbJoin tn xm low.root f R B.root).1 tn x A.root T1.root (m % 2 == 1) z = R z := fun z hz => by
        rw [nodeT_nodes, nodeT_nodes] at hz
        rw [hoth z (fun e => hz (.inl (.inr (.inl e))))]
        refine t5 z fun h => ?_
        rcases nodeT_nodes.1 h with h | h | h
        · exact hz (.inl (.inr (.inr h)))
        · exact hz (.inr (.inl h))
        · exact hz (.inr (.inr h))
      generalize rbPutT (rbJoin tn xm low.root f R B.root).1 tn x A.root T1.root (m % 2 == 1) = R2 at *
      clear hof t2 hA1 hL1 t5
      have h02 : R2 0 = none := (hoth 0 (fun e => x0 e.symm)).trans hR1
      have hmm : (if (m % 2 == 1) = true then 2 * A.bh + 1 else 2 * A.bh + 2) = m := by
        rcases rm with h | ⟨h, _⟩
        · rw [h, if_neg (by simp)]
        · rw [h, if_pos (by simp)]
      rw [hmm] at hp
      have sm : Sim (nodeT tn xm km vm 0 k v (nodeT tn x kx vx m k' v' A B) low) (nodeT tn x kx vx m k' v' A T1) :=
        (nodeT_simT (tn := tn) (m := m) (m' := 0) (m1 := m) (m1' := 0)).symm.trans (nodeT_in (Sim.refl A) t3)
      have hT2 := (nodeT_at.1 hp).2.2.2.2.2.2.2
      rw [(rbB_at hT2 h02).2]
      by_cases hred : (m % 2 == 1) = true
      · -- the tree's root is red
        rw [if_pos (.inl hred)]
        have hm1 : m = 2 * A.bh + 1 ∧ A.red = false ∧ B.red = false := by
          rcases rm with h | h
          · rw [h] at hred; simp at hred
          · exact h
        obtain ⟨w1, w2⟩ := t7 hm1.2.2
        refine ⟨_, nodeT_root.symm, hp, sm, hframe, nodeT_bh, fun h => (by rw [hred] at h; cases h), fun _ => ⟨⟨_, _, _, _, _, _, _, _, rfl, rAB.trans t6.symm, rA, hm1.1, hm1.2.1, w1⟩, fun h => ⟨_, _, _, _, _, _, _, _, rfl, rAB.trans t6.symm, rA, hm1.1, hm1.2.1, w2 (by omega)⟩⟩⟩
      · have hmB : m = 2 * A.bh + 2 := by
          rcases rm with h | ⟨h, _⟩
          · exact h
          · exact absurd (by rw [h]; simp) hred
        -- of a black root all is right, once the sides are
        have hRB : T1.RB → ∃ T : BT, x = T.root ∧ T.At R2 ∧ Sim (nodeT tn xm km vm 0 k v (nodeT tn x kx vx m k' v' A B) low) T ∧ (∀ z, z ∉ (nodeT tn xm km vm 0 k v (nodeT tn x kx vx m k' v' A B) low).nodes → R2 z = R z) ∧ T.bh = m / 2 ∧
            ((m % 2 == 1) = false → W1 tn T ∧ (low.bh < m / 2 → T.RB)) ∧ ((m % 2 == 1) = true → W2 tn (W1 tn) T ∧ (low.bh < m / 2 → W2 tn RB T)) := fun hT => by
          have hN : (nodeT tn x kx vx m k' v' A T1).RB := nodeT_RB.2 ⟨.inl hmB, rAB.trans t6.symm, rA, hT⟩
          exact ⟨_, nodeT_root.symm, hp, sm, hframe, nodeT_bh, fun _ => ⟨⟨_, _, _, _, _, _, _, _, rfl, rAB.trans t6.symm, rA, hT, .inl hmB⟩, fun _ => hN⟩, fun h => absurd h hred⟩
        have hW : W1 tn T1 ∨ W2 tn (W1 tn) T1 := by
          cases hBr : B.red with
          | false => exact .inl (t7 hBr).1
          | true => exact .inr (t8 hBr).1
        cases hTr : T1.red with
        | false =>
          rw [if_pos (.inr rfl)]
          refine hRB ?_
          rcases hW with h | h
          · exact h.rb hTr
          · rw [h.red] at hTr; cases hTr
        | true =>
          rw [if_neg (by simp [hred])]
          obtain ⟨y, ky, vy, my, k1, v1, C, D, rfl, r1, r2, r3, r4, r5⟩ := red_parts hTr hW
          obtain ⟨q1, q2, q3, q4, q5⟩ := nodeT_g hT2
          rw [nodeT_root, q5]
          simp only
          obtain ⟨y0, hy, hky, hvy, ky1, vy1, hC, hD⟩ := nodeT_at.1 hT2
          rw [(rbB_at hD h02).2]
          cases hDr : D.red with
          | false =>
            rw [if_pos rfl]
            refine hRB (nodeT_RB.2 ⟨.inr ⟨r3, r4, hDr⟩, r1, r2, ?_⟩)
            rcases r5 with h | h
            · exact h
            · exact h.rb hDr
          | true =>
            rw [if_neg (by simp)]
            obtain ⟨z, kz, vz, mz, k2, v2, E, G, rfl, s1, s2, s3, s4⟩ := red_parts2 (tn := tn) hDr r5
            obtain ⟨u1, u2, u3, u4, u5⟩ := nodeT_g hD
            rw [nodeT_root, u5]
            simp only
            obtain ⟨z0, hz, hkz, hvz, kz1, vz1, hE, hG⟩ := nodeT_at.1 hD
            have nN := sm.nodup hn
            obtain ⟨_, nY, ⟨_, _, _⟩, ⟨i1, i2, i3⟩, _, i4⟩ := nodeT_nodup.1 nN
            obtain ⟨nC, nD, ⟨j1, j2, j3⟩, ⟨o1, o2, o3⟩, ⟨p1, p2, p3⟩, j4⟩ := nodeT_nodup.1 nY
            obtain ⟨nE, nG, ⟨v1', v2', v3'⟩, ⟨w1, w2, w3⟩, ⟨y1, y2, y3⟩, w4⟩ := nodeT_nodup.1 nD
            simp only [nodeT_mem, not_or] at i1 i2 i3 o1 o2 o3 j4 i4
            rw [nodeT_bh] at r1 t6
            rw [nodeT_size, nodeT_size] at hsT
            have hABh : A.bh = C.bh := by omega
            -- the three puts
            have P1 := put_bt (tn := tn) (rd := false) h02 (Lo.of hD) hE hG s1 (bh_small s2 (by omega)) (by omega) v1' w1 y1 y2
            rw [if_neg (by simp)] at P1
            have f1' : ∀ u, u ≠ z → rbPutT R2 tn z E.root G.root false u = R2 u := fun u hu => rbPut_other hu
            have h03 : rbPutT R2 tn z E.root G.root false 0 = none := (f1' 0 (fun e => z0 e.symm)).trans h02
            have zA : ∀ u ∈ A.hs, u ≠ z := fun u hu e => (i4 u hu).2.2.2.2.2.1 e
            have zC : ∀ u ∈ C.hs, u ≠ z := fun u hu e => (j4 u hu).2.1 e
            have hAx := (nodeT_at.1 hp).2.2.2.2.2.2.1
            have P2 := put_bt (tn := tn) (rd := false) (a := A) (b := C) h03 ((Lo.of hp).congr (f1' x i1.2.2.2.2.2.1) (f1' kx i2.2.2.2.2.2.1) (f1' vx i3.2.2.2.2.2.1)) (hAx.congr fun u hu => f1' u (zA u hu)) (hC.congr fun u hu => f1' u (zC u hu)) hABh (bh_small rA (by omega)) (by omega) d1 i1.1 f1 f2
            rw [if_neg (by simp)] at P2
            have f2' : ∀ u, u ≠ x → rbPutT (rbPutT R2 tn z E.root G.root false) tn x A.root C.root false u = rbPutT R2 tn z E.root G.root false u := fun u hu => rbPut_other hu
            have h04 : rbPutT (rbPutT R2 tn z E.root G.root false) tn x A.root C.root false 0 = none := (f2' 0 (fun e => x0 e.symm)).trans h03
            have f12 : ∀ u, u ≠ x → u ≠ z → rbPutT (rbPutT R2 tn z E.root G.root false) tn x A.root C.root false u = R2 u := fun u hu hv => (f2' u hu).trans (f1' u hv)
            have P1' : (nodeT tn z kz vz (2 * E.bh + 2) k2 v2 E G).At (rbPutT (rbPutT R2 tn z E.root G.root false) tn x A.root C.root false) := P1.congr fun u hu => f2' u (fun e => by
              rw [nodeT_mem] at hu
              subst e
              rcases hu with h | h | h | h | h
              · exact i1.2.2.2.2.1 h
              · exact i1.2.2.2.2.2.1 h
              · exact i1.2.2.2.2.2.2.1 h
              · exact i1.2.2.2.2.2.2.2.1 h
              · exact i1.2.2.2.2.2.2.2.2 h)
            have P3 := put_bt (tn := tn) (rd := true) (a := nodeT tn x kx vx (2 * A.bh + 2) k' v' A C) (b := nodeT tn z kz vz (2 * E.bh + 2) k2 v2 E G) h04
              ((Lo.of hT2).congr (f12 y (fun e => i1.2.1 e.symm) o1.2.1) (f12 ky (fun e => i1.2.2.1 e.symm) o2.2.1) (f12 vy (fun e => i1.2.2.2.1 e.symm) o3.2.1)) P2 P1' (by rw [nodeT_bh, nodeT_bh]; omega)
              (by rw [nodeT_bh]; have := bh_hgt rA; have := hgt_le A; omega) (by rw [nodeT_size, nodeT_size]; omega)
              (by
                rw [nodeT_mem]
                rintro (h | h | h | h | h)
                · exact (i4 y h).2.1 rfl
                · exact i1.2.1 h.symm
                · exact i2.2.1 h.symm
                · exact i3.2.1 h.symm
                · exact j1 h)
              (by
                rw [nodeT_mem]
                rintro (h | h | h | h | h)
                · exact o1.1 h
                · exact o1.2.1 h
                · exact o1.2.2.1 h
                · exact o1.2.2.2.1 h
                · exact o1.2.2.2.2 h) p1 p2
            rw [if_pos rfl, nodeT_root, nodeT_root, nodeT_bh] at P3
            have hN1 : (nodeT tn x kx vx (2 * A.bh + 2) k' v' A C).RB := nodeT_RB.2 ⟨.inl rfl, hABh, rA, r2⟩
            have hN2 : (nodeT tn z kz vz (2 * E.bh + 2) k2 v2 E G).RB := nodeT_RB.2 ⟨.inl rfl, s1, s2, s3⟩
            have hbb : (2 * A.bh + 2) / 2 = (2 * E.bh + 2) / 2 := by omega
            have hY : (nodeT tn y ky vy (2 * ((2 * A.bh + 2) / 2) + 1) k1 v1 (nodeT tn x kx vx (2 * A.bh + 2) k' v' A C) (nodeT tn z kz vz (2 * E.bh + 2) k2 v2 E G)).RB :=
              nodeT_RB.2 ⟨.inr ⟨by rw [nodeT_bh], by rw [nodeT_red]; simp, by rw [nodeT_red]; simp⟩, by rw [nodeT_bh, nodeT_bh]; exact hbb, hN1, hN2⟩
            refine ⟨_, nodeT_root.symm, P3, sm.trans ((nodeT_simT (m1' := 0)).trans (nodeT_in (Sim.refl _) (nodeT_in (Sim.refl _) (Sim.refl _)))), fun u hu => ?_, by rw [nodeT_bh]; omega, fun _ => ⟨hY.w1 (fun e => by have := congrArg BT.size e; rw [nodeT_size] at this; simp only [size] at this; omega), fun _ => hY⟩, fun h => absurd h hred⟩
            have hu2 := sm.mem hu
            rw [nodeT_nodes, nodeT_nodes, nodeT_nodes] at hu2
            simp only [not_or] at hu2
            rw [rbPut_other (fun e => hu2.2.2.2.1 e), f12 u hu2.2.1 hu2.2.2.2.2.2.1, hframe u hu]
end
end BT
end Go.Proofs.YtijpmjaeanocpaaGreatDoor

set_option linter.unusedVariables false
set_option linter.unusedSimpArgs false
namespace Go.Proofs.YtijpmjaeanocpaaGreatDoor
open Go.RowKit Go.Shelf
section
variable {R0 R1 R2 R3 R4 : Nat → Option (List Nat)} {tl tr t : BT} {x kx vx m m0 : Nat} {k v : ByteArray}
theorem GrowOut.on {ta tb : BT} (g : GrowOut R1 R2 tb) (h : ta.At R1) : ta.At R2 := h.congr fun z hz => g.keep (BT.hs_in ta h z hz)
theorem GrowOut.off {ta tb : BT} (g : GrowOut R1 R2 tb) (h : ta.At R1) : ∀ z ∈ ta.hs, z ∉ tb.hs := fun z hz hz' => BT.hs_in ta h z hz (g.fresh z hz')
end
end Go.Proofs.YtijpmjaeanocpaaGreatDoor

set_option linter.unusedVariables false
set_option linter.unusedSimpArgs false
namespace Go.Proofs.YtijpmjaeanocpaaGreatDoor
open Go.RowKit Go.Shelf
def isR (R : Nat → Option (List Nat)) (x : Nat) : Bool := x == 0 || nodeE R x == 0
def okW (p : (Nat → Option (List Nat)) × Nat) : (Nat → Option (List Nat)) × Nat × Nat := (p.1, p.2, 0)
theorem okW_1 (p : (Nat → Option (List Nat)) × Nat) : (okW p).1 = p.1 := rfl
theorem okW_2 (p : (Nat → Option (List Nat)) × Nat) : (okW p).2.1 = p.2 := rfl
theorem okW_3 (p : (Nat → Option (List Nat)) × Nat) : (okW p).2.2 = 0 := rfl
def avTop (R : Nat → Option (List Nat)) (l m r : Nat) : (Nat → Option (List Nat)) × Nat × Nat :=
  if m ≠ 0 ∧ isR R l = true ∧ isR R m = true ∧ isR R r = true then okW (avJoin (nodeG R m) m 100 R l r) else (R, 0, 8)
theorem avTop_yes {R : Nat → Option (List Nat)} {l m r : Nat} (hc : m ≠ 0 ∧ isR R l = true ∧ isR R m = true ∧ isR R r = true) : avTop R l m r = okW (avJoin (nodeG R m) m 100 R l r) := by
  unfold avTop
  exact if_pos hc
theorem avTop_no {R : Nat → Option (List Nat)} {l m r : Nat} (hc : ¬ (m ≠ 0 ∧ isR R l = true ∧ isR R m = true ∧ isR R r = true)) : avTop R l m r = (R, 0, 8) := by
  unfold avTop
  exact if_neg hc
theorem avTop_keeps (R : Nat → Option (List Nat)) (l m r : Nat) : KeepsN R (avTop R l m r).1 := by
  have h := avJoin_keeps (nodeG R m) m 100 R l r ⟨rfl, rfl⟩
  by_cases hc : m ≠ 0 ∧ isR R l = true ∧ isR R m = true ∧ isR R r = true
  · rw [avTop_yes hc, okW_1]
    exact h
  · rw [avTop_no hc]
    exact KeepsN.refl R
theorem isR_root {R : Nat → Option (List Nat)} {t : BT} (h : t.At R) : isR R t.root = true := by
  unfold isR
  cases t with
  | nil => rfl
  | node x kx vx m k v l r => rw [BT.root, (h.root_at).1]; simp
end Go.Proofs.YtijpmjaeanocpaaGreatDoor

set_option linter.unusedVariables false
set_option linter.unusedSimpArgs false
namespace Go.Proofs.YtijpmjaeanocpaaGreatDoor
open Go.RowKit Go.Shelf
namespace BT
structure RbOut (R R' : Nat → Option (List Nat)) (y : Nat) (T t : BT) : Prop where
  root : y = t.root
  at' : t.At R'
  sim : Sim T t
  rb : t.RB
  frame : ∀ z, z ∉ T.nodes → R' z = R z
section
variable {tn : Bool} {R : Nat → Option (List Nat)}
theorem rbTop_bt {xm km vm : Nat} {k v : ByteArray} {low t : BT} (h0 : R 0 = none) (ht : t.At R) (hl : low.At R) (rt : t.RB) (rl : low.RB) (hb : low.bh < t.bh) (hm : Lo R xm km vm k v)
    (hn : (nodeT tn xm km vm 0 k v t low).hs.Nodup) (sz : t.size + low.size ≤ 150) :
    ∃ T : BT, RbOut R (rbTop tn R t.root xm low.root).1 (rbTop tn R t.root xm low.root).2 (nodeT tn xm km vm 0 k v t low) T ∧ t.bh ≤ T.bh ∧ T.bh ≤ t.bh + 1 := by
  have l1 := hgt_le t
  obtain ⟨T, t1, t2, t3, t4, t5, t6, t7⟩ := rbJoin_bt 200 R t h0 ht hl rt rl (Nat.le_of_lt hb) hm hn (by omega) (by omega)
  unfold rbTop
  generalize rbJoin tn xm low.root 200 R t.root = p at *
  obtain ⟨R1, y⟩ := p
  simp only at t1 t2 t4 ⊢
  subst t1
  have h01 : R1 0 = none := by
    refine (t4 0 fun h9 => ?_).trans h0
    rcases nodeT_nodes.1 h9 with h | h | h
    · exact nodes_zero h0 ht h
    · exact hm.nz h.symm
    · exact nodes_zero h0 hl h
  have sT := t3.size
  rw [nodeT_size] at sT
  rw [(rbB_at t2 h01).2]
  cases hr : t.red with
  | false =>
    have hT := (t6 hr).2 hb
    obtain ⟨x, kx, vx, m, k', v', a, b, rfl⟩ := nodeT_cases tn ((t6 hr).1.ne)
    obtain ⟨g1, g2, g3, g4, g5⟩ := nodeT_g t2
    rw [nodeT_root, g5]
    simp only
    rw [(rbB_at (nodeT_at.1 t2).2.2.2.2.2.2.2 h01).2]
    have hc : ¬ ((nodeT tn x kx vx m k' v' a b).red = true ∧ b.red = true) := by
      rintro ⟨e1, e2⟩
      obtain ⟨h1, h2, h3, h4⟩ := nodeT_RB.1 hT
      rcases h1 with h | ⟨_, _, h⟩
      · rw [nodeT_red, h] at e1; simp at e1
      · rw [h] at e2; cases e2
    rw [if_neg hc]
    exact ⟨nodeT tn x kx vx m k' v' a b, ⟨nodeT_root.symm, t2, t3, hT, t4⟩, by omega, by omega⟩
  | true =>
    obtain ⟨x, kx, vx, m, k', v', a, b, rfl, r1, r2, r3, r4, r5⟩ := (t7 hr).2 hb
    obtain ⟨g1, g2, g3, g4, g5⟩ := nodeT_g t2
    obtain ⟨x0, _, _, _, _, _, ha, hbb⟩ := nodeT_at.1 t2
    rw [nodeT_root, g5]
    simp only
    rw [(rbB_at hbb h01).2]
    rw [nodeT_size] at sT
    rw [nodeT_bh] at t5
    cases hbr : b.red with
    | false =>
      rw [if_neg (by simp)]
      exact ⟨_, ⟨nodeT_root.symm, t2, t3, nodeT_RB.2 ⟨.inr ⟨r3, r4, hbr⟩, r1, r2, r5⟩, t4⟩, by rw [nodeT_bh]; omega, by rw [nodeT_bh]; omega⟩
    | true =>
      have hnd := t3.nodup hn
      obtain ⟨_, _, ⟨a1, a2, a3⟩, ⟨b1, b2, b3⟩, ⟨c1, c2, c3⟩, c4⟩ := nodeT_nodup.1 hnd
      have la := bh_hgt r2
      have lh := hgt_le a
      have P1 := put_bt (tn := tn) (rd := false) h01 (Lo.of t2) ha hbb r1 (by omega) (by omega) a1 b1 c1 c2
      rw [if_neg (by simp)] at P1
      rw [if_pos ⟨by rw [nodeT_red, r3]; simp, rfl⟩]
      refine ⟨_, ⟨nodeT_root.symm, P1, t3.trans (nodeT_in (Sim.refl a) (Sim.refl b)), nodeT_RB.2 ⟨.inl rfl, r1, r2, r5⟩, fun z hz => ?_⟩, by rw [nodeT_bh]; omega, by rw [nodeT_bh]; omega⟩
      have hz2 := t3.mem hz
      rw [nodeT_nodes] at hz2
      exact (rbPut_other (fun e => hz2 (.inr (.inl e)))).trans (t4 z hz)
theorem rbAll_bt {xm km vm : Nat} {k v : ByteArray} {l r : BT} (h0 : R 0 = none) (hl : l.At R) (hr : r.At R) (al : l.RB) (ar : r.RB) (hm : Lo R xm km vm k v)
    (hn : (node xm km vm 0 k v l r).hs.Nodup) (sz : l.size + r.size ≤ 150) :
    ∃ T : BT, RbOut R (rbAll R l.root xm r.root).1 (rbAll R l.root xm r.root).2 (node xm km vm 0 k v l r) T ∧ max l.bh r.bh ≤ T.bh ∧ T.bh ≤ max l.bh r.bh + 1 ∧
      (l.bh = r.bh → T = node xm km vm (if !l.red && !r.red then 2 * l.bh + 1 else 2 * l.bh + 2) k v l r) := by
  unfold rbAll
  rw [(rbB_at hl h0).1, (rbB_at hr h0).1, (rbB_at hl h0).2, (rbB_at hr h0).2]
  by_cases c1 : r.bh < l.bh
  · rw [if_pos c1]
    obtain ⟨T, o, q1, q2⟩ := rbTop_bt (tn := false) h0 hl hr al ar c1 hm hn sz
    generalize rbTop false R l.root xm r.root = p at *
    exact ⟨T, o, by omega, by omega, fun e => by omega⟩
  · rw [if_neg c1]
    by_cases c2 : l.bh < r.bh
    · rw [if_pos c2]
      obtain ⟨T, o, q1, q2⟩ := rbTop_bt (tn := true) h0 hr hl ar al c2 hm hn (by omega)
      generalize rbTop true R r.root xm l.root = p at *
      exact ⟨T, o, by omega, by omega, fun e => by omega⟩
    · rw [if_neg c2]
      obtain ⟨_, _, ⟨a1, a2, a3⟩, ⟨b1, b2, b3⟩, ⟨d1, d2, d3⟩, d4⟩ := node_nodup.1 hn
      have la := bh_hgt al
      have lh := hgt_le l
      have e : l.bh = r.bh := by omega
      have P1 := put_bt (tn := false) (rd := !l.red && !r.red) h0 hm hl hr e (by omega) (by omega) a1 b1 d1 d2
      refine ⟨_, ⟨rfl, P1, sim_in (Sim.refl l) (Sim.refl r), ?_, fun z hz => ?_⟩, ?_, ?_, fun _ => rfl⟩
      · refine nodeT_RB.2 ⟨?_, e, al, ar⟩
        cases h1 : l.red <;> cases h2 : r.red <;> simp
      · simp only [nodes, List.mem_append, List.mem_cons, not_or] at hz
        exact rbPut_other (tn := false) hz.2.1
      · rw [nodeT_bh]; split <;> omega
      · rw [nodeT_bh]; split <;> omega
end
end BT
def rbJ (R : Nat → Option (List Nat)) (l m r : Nat) : (Nat → Option (List Nat)) × Nat × Nat :=
  if m ≠ 0 ∧ isR R l = true ∧ isR R m = true ∧ isR R r = true then okW (rbAll R l m r) else (R, 0, 8)
theorem rbJ_yes {R : Nat → Option (List Nat)} {l m r : Nat} (hc : m ≠ 0 ∧ isR R l = true ∧ isR R m = true ∧ isR R r = true) : rbJ R l m r = okW (rbAll R l m r) := by
  unfold rbJ
  exact if_pos hc
theorem rbJ_no {R : Nat → Option (List Nat)} {l m r : Nat} (hc : ¬ (m ≠ 0 ∧ isR R l = true ∧ isR R m = true ∧ isR R r = true)) : rbJ R l m r = (R, 0, 8) := by
  unfold rbJ
  exact if_neg hc
theorem rbJ_keeps (R : Nat → Option (List Nat)) (l m r : Nat) : KeepsN R (rbJ R l m r).1 := by
  have h := rbAll_keeps R l m r
  by_cases hc : m ≠ 0 ∧ isR R l = true ∧ isR R m = true ∧ isR R r = true
  · rw [rbJ_yes hc, okW_1]
    exact h
  · rw [rbJ_no hc]
    exact KeepsN.refl R
end Go.Proofs.YtijpmjaeanocpaaGreatDoor

set_option linter.unusedVariables false
set_option linter.unusedSimpArgs false
namespace Go.Proofs.YtijpmjaeanocpaaGreatDoor
open Go.RowKit Go.Shelf
def joinK (rd : Bool) (R : Nat → Option (List Nat)) (l m r : Nat) : (Nat → Option (List Nat)) × Nat × Nat := if rd then rbJ R l m r else avTop R l m r
theorem joinK_keeps (rd : Bool) (R : Nat → Option (List Nat)) (l m r : Nat) : KeepsN R (joinK rd R l m r).1 := by
  unfold joinK
  cases rd with
  | false => exact avTop_keeps R l m r
  | true => exact rbJ_keeps R l m r
def cutJ (rd : Bool) (R : Nat → Option (List Nat)) (l m r : Nat) : (Nat → Option (List Nat)) × Nat :=
  ((joinK rd R l m r).1, if (joinK rd R l m r).2.2 = 0 then (joinK rd R l m r).2.1 else m)
theorem cutJ_keeps (rd : Bool) (R : Nat → Option (List Nat)) (l m r : Nat) : KeepsN R (cutJ rd R l m r).1 := joinK_keeps rd R l m r
def cutS (rd : Bool) (key : ByteArray) : Nat → (Nat → Option (List Nat)) → Nat → (Nat → Option (List Nat)) × Nat × Nat × Nat
  | 0, R, x => (R, 0, 0, 0)
  | f + 1, R, x =>
    if x = 0 then (R, 0, 0, 0)
    else if Tx.cmp key (keyR R (nodeG R x)) < 0 then
      ((cutJ rd (cutS rd key f R (nodeG R x).left).1 (cutS rd key f R (nodeG R x).left).2.2.2 x (nodeG R x).right).1, (cutS rd key f R (nodeG R x).left).2.1, (cutS rd key f R (nodeG R x).left).2.2.1,
        (cutJ rd (cutS rd key f R (nodeG R x).left).1 (cutS rd key f R (nodeG R x).left).2.2.2 x (nodeG R x).right).2)
    else if 0 < Tx.cmp key (keyR R (nodeG R x)) then
      ((cutJ rd (cutS rd key f R (nodeG R x).right).1 (nodeG R x).left x (cutS rd key f R (nodeG R x).right).2.1).1, (cutJ rd (cutS rd key f R (nodeG R x).right).1 (nodeG R x).left x (cutS rd key f R (nodeG R x).right).2.1).2,
        (cutS rd key f R (nodeG R x).right).2.2.1, (cutS rd key f R (nodeG R x).right).2.2.2)
    else (R, (nodeG R x).left, x, (nodeG R x).right)
theorem cutS_keeps (rd : Bool) (key : ByteArray) : ∀ (f : Nat) (R : Nat → Option (List Nat)) (x : Nat), KeepsN R (cutS rd key f R x).1
  | 0, R, x => KeepsN.refl R
  | f + 1, R, x => by
    rw [cutS]
    split
    · exact KeepsN.refl R
    · split
      · exact (cutS_keeps rd key f R _).trans (cutJ_keeps rd _ _ _ _)
      · split
        · exact (cutS_keeps rd key f R _).trans (cutJ_keeps rd _ _ _ _)
        · exact KeepsN.refl R
def cutL (rd : Bool) : Nat → (Nat → Option (List Nat)) → Nat → (Nat → Option (List Nat)) × Nat × Nat
  | 0, R, x => (R, (nodeG R x).left, x)
  | f + 1, R, x =>
    if (nodeG R x).right = 0 then (R, (nodeG R x).left, x)
    else ((cutJ rd (cutL rd f R (nodeG R x).right).1 (nodeG R x).left x (cutL rd f R (nodeG R x).right).2.1).1, (cutJ rd (cutL rd f R (nodeG R x).right).1 (nodeG R x).left x (cutL rd f R (nodeG R x).right).2.1).2, (cutL rd f R (nodeG R x).right).2.2)
theorem cutL_keeps (rd : Bool) : ∀ (f : Nat) (R : Nat → Option (List Nat)) (x : Nat), KeepsN R (cutL rd f R x).1
  | 0, R, x => KeepsN.refl R
  | f + 1, R, x => by
    rw [cutL]
    split
    · exact KeepsN.refl R
    · exact (cutL_keeps rd f R _).trans (cutJ_keeps rd _ _ _ _)
def cutC (rd : Bool) (R : Nat → Option (List Nat)) (l r : Nat) : (Nat → Option (List Nat)) × Nat :=
  if l = 0 then (R, r) else cutJ rd (cutL rd 200 R l).1 (cutL rd 200 R l).2.1 (cutL rd 200 R l).2.2 r
theorem cutC_keeps (rd : Bool) (R : Nat → Option (List Nat)) (l r : Nat) : KeepsN R (cutC rd R l r).1 := by
  unfold cutC
  split
  · exact KeepsN.refl R
  · exact (cutL_keeps rd 200 R l).trans (cutJ_keeps rd _ _ _ _)
theorem KeepsN.short {R R' : Nat → Option (List Nat)} (h : KeepsN R R') (hs : Short R) : Short R' := fun x ws hx => by
  by_cases h0 : nodeE R x = 0
  · obtain ⟨o, ho⟩ := nodeE_zero.1 ((h x).1.1.trans h0)
    rw [nodeR_some ho] at hx
    cases hx
    simp [Nd.ws]
  · exact hs x ws (((h x).1.2 h0).symm.trans hx)
theorem KeepsN.zero {R R' : Nat → Option (List Nat)} (h : KeepsN R R') (h0 : R 0 = none) : R' 0 = none :=
  ((h 0).1.2 (by unfold nodeE; rw [h0]; decide)).trans h0
end Go.Proofs.YtijpmjaeanocpaaGreatDoor

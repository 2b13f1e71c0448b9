/-
  The seat's own texts, shared part a: AvM, AvT, AvA, AvB, AvT2, RbM, Box, Row, AvW1, RbW1, RbW2.
-/
import Derived.Test.YtjpmlneihbckpaaGreatDoorMi
import Derived.StillTail
import Derived.Deep.DeepMust
/- AVL joins as they work on a store's records: plain model. -/
set_option linter.unusedVariables false
set_option linter.unusedSimpArgs false
namespace Go.Proofs.YtjpmlneihbckpaaGreatDoor
open Go.RowKit Go.Shelf
/-- a number as a word -/
def toU (z : Int) : Nat := (z % 18446744073709551616).toNat
theorem toU_lt (z : Int) : toU z < 18446744073709551616 := by
  unfold toU
  have h1 := Int.emod_nonneg z (show (18446744073709551616 : Int) ≠ 0 by omega)
  have h2 := Int.emod_lt_of_pos z (show (0 : Int) < 18446744073709551616 by omega)
  omega
theorem toU_nat (n : Nat) (h : n < 9223372036854775808) : toU (wrap64 (n : Int)) = n := by
  rw [IntWalk.wrap64_in _ (by omega)]
  unfold toU
  omega
/-- a node is put, where there is one -/
def putN (R : Nat → Option (List Nat)) (x : Nat) (nd : Nd) : Nat → Option (List Nat) := if nodeE R x = 0 then updR R x (some nd.ws) else R
theorem putN_other {R : Nat → Option (List Nat)} {x y : Nat} {nd : Nd} (h : y ≠ x) : putN R x nd y = R y := by
  unfold putN
  split
  · exact updR_other h
  · rfl
theorem putN_same {R : Nat → Option (List Nat)} {x : Nat} {nd : Nd} (h : nodeE R x = 0) : putN R x nd x = some nd.ws := by
  unfold putN
  rw [if_pos h, updR_same]
/-- a tree's height, as its root says -/
def avH (R : Nat → Option (List Nat)) (x : Nat) : Int := wrap64 (nodeG R x).mark
def withN (R : Nat → Option (List Nat)) (t : Nd) (l r : Nat) : Nd :=
  ⟨t.key, t.val, l, r, toU (wrap64 (max (avH R l) (avH R r) + 1)), toU (wrap64 (wrap64 (tsizeR R l + tsizeR R r) + 1))⟩
def withR (R : Nat → Option (List Nat)) (t : Nd) (x l r : Nat) : Nat → Option (List Nat) := putN R x (withN R t l r)
def avLeft (R : Nat → Option (List Nat)) (x : Nat) : (Nat → Option (List Nat)) × Nat :=
  (withR (withR R (nodeG R x) x (nodeG R x).left (nodeG R (nodeG R x).right).left) (nodeG R (nodeG R x).right) (nodeG R x).right x (nodeG R (nodeG R x).right).right, (nodeG R x).right)
def avRight (R : Nat → Option (List Nat)) (x : Nat) : (Nat → Option (List Nat)) × Nat :=
  (withR (withR R (nodeG R x) x (nodeG R (nodeG R x).left).right (nodeG R x).right) (nodeG R (nodeG R x).left) (nodeG R x).left (nodeG R (nodeG R x).left).left x, (nodeG R x).left)
def avBal (R : Nat → Option (List Nat)) (x : Nat) : (Nat → Option (List Nat)) × Nat :=
  if 1 < wrap64 (avH R (nodeG R x).left - avH R (nodeG R x).right) then
    if avH R (nodeG R (nodeG R x).left).left < avH R (nodeG R (nodeG R x).left).right then
      avRight (withR (avLeft R (nodeG R x).left).1 (nodeG R x) x (avLeft R (nodeG R x).left).2 (nodeG R x).right) x
    else avRight R x
  else if wrap64 (avH R (nodeG R x).left - avH R (nodeG R x).right) < -1 then
    if avH R (nodeG R (nodeG R x).right).right < avH R (nodeG R (nodeG R x).right).left then
      avLeft (withR (avRight R (nodeG R x).right).1 (nodeG R x) x (nodeG R x).left (avRight R (nodeG R x).right).2) x
    else avLeft R x
  else (R, x)
/-- join, as deep as may be -/
def avJoin (m : Nd) (xm : Nat) : Nat → (Nat → Option (List Nat)) → Nat → Nat → (Nat → Option (List Nat)) × Nat
  | 0, R, l, r => (withR R m xm l r, xm)
  | f + 1, R, l, r =>
    if wrap64 (avH R r + 1) < avH R l then
      avBal (withR (avJoin m xm f R (nodeG R l).right r).1 (nodeG R l) l (nodeG R l).left (avJoin m xm f R (nodeG R l).right r).2) l
    else if wrap64 (avH R l + 1) < avH R r then
      avBal (withR (avJoin m xm f R l (nodeG R r).left).1 (nodeG R r) r (avJoin m xm f R l (nodeG R r).left).2 (nodeG R r).right) r
    else (withR R m xm l r, xm)
/-- what joins keep: which records are nodes, and their keys and values -/
def KeepsN (R R' : Nat → Option (List Nat)) : Prop := ∀ x, (nodeE R' x = nodeE R x ∧ (nodeE R x ≠ 0 → R' x = R x)) ∧ (nodeG R' x).key = (nodeG R x).key ∧ (nodeG R' x).val = (nodeG R x).val
theorem KeepsN.refl (R : Nat → Option (List Nat)) : KeepsN R R := fun _ => ⟨⟨rfl, fun _ => rfl⟩, rfl, rfl⟩
theorem KeepsN.trans {R R1 R2 : Nat → Option (List Nat)} (h : KeepsN R R1) (k : KeepsN R1 R2) : KeepsN R R2 := fun x => ⟨⟨(k x).1.1.trans (h x).1.1, fun hx => ((k x).1.2 (by rw [(h x).1.1]; exact hx)).trans ((h x).1.2 hx)⟩, (k x).2.1.trans (h x).2.1, (k x).2.2.trans (h x).2.2⟩
theorem nodeE_congr {R R' : Nat → Option (List Nat)} {x : Nat} (h : R' x = R x) : nodeE R' x = nodeE R x ∧ nodeG R' x = nodeG R x := by
  unfold nodeE nodeG nodeR
  rw [h]
  exact ⟨rfl, rfl⟩
theorem KeepsN.put {R : Nat → Option (List Nat)} {x : Nat} {nd : Nd} (hk : nodeE R x = 0 → nd.key = (nodeG R x).key ∧ nd.val = (nodeG R x).val) : KeepsN R (putN R x nd) := fun y => by
  by_cases e : y = x
  · subst e
    by_cases h0 : nodeE R y = 0
    · obtain ⟨e1, e2⟩ := nodeR_at (putN_same (nd := nd) h0)
      rw [e1, e2, h0]
      exact ⟨⟨rfl, fun hx => absurd rfl hx⟩, hk h0⟩
    · unfold putN
      rw [if_neg h0]
      exact ⟨⟨rfl, fun _ => rfl⟩, rfl, rfl⟩
  · obtain ⟨e1, e2⟩ := nodeE_congr (putN_other (nd := nd) (R := R) e)
    rw [e1, e2]
    exact ⟨⟨rfl, fun _ => putN_other e⟩, rfl, rfl⟩
theorem KeepsN.with {R : Nat → Option (List Nat)} {t : Nd} {x l r : Nat} (hk : t.key = (nodeG R x).key ∧ t.val = (nodeG R x).val) : KeepsN R (withR R t x l r) := KeepsN.put fun _ => hk
theorem avLeft_keeps (R : Nat → Option (List Nat)) (x : Nat) : KeepsN R (avLeft R x).1 := by
  have h1 : KeepsN R (withR R (nodeG R x) x (nodeG R x).left (nodeG R (nodeG R x).right).left) := KeepsN.with ⟨rfl, rfl⟩
  exact h1.trans (KeepsN.with ⟨(h1 _).2.1.symm, (h1 _).2.2.symm⟩)
theorem avRight_keeps (R : Nat → Option (List Nat)) (x : Nat) : KeepsN R (avRight R x).1 := by
  have h1 : KeepsN R (withR R (nodeG R x) x (nodeG R (nodeG R x).left).right (nodeG R x).right) := KeepsN.with ⟨rfl, rfl⟩
  exact h1.trans (KeepsN.with ⟨(h1 _).2.1.symm, (h1 _).2.2.symm⟩)
theorem avBal_keeps (R : Nat → Option (List Nat)) (x : Nat) : KeepsN R (avBal R x).1 := by
  unfold avBal
  split
  · split
    · have h1 := avLeft_keeps R (nodeG R x).left
      have h2 : KeepsN _ (withR (avLeft R (nodeG R x).left).1 (nodeG R x) x (avLeft R (nodeG R x).left).2 (nodeG R x).right) := KeepsN.with ⟨(h1 _).2.1.symm, (h1 _).2.2.symm⟩
      exact (h1.trans h2).trans (avRight_keeps _ _)
    · exact avRight_keeps _ _
  · split
    · split
      · have h1 := avRight_keeps R (nodeG R x).right
        have h2 : KeepsN _ (withR (avRight R (nodeG R x).right).1 (nodeG R x) x (nodeG R x).left (avRight R (nodeG R x).right).2) := KeepsN.with ⟨(h1 _).2.1.symm, (h1 _).2.2.symm⟩
        exact (h1.trans h2).trans (avLeft_keeps _ _)
      · exact avLeft_keeps _ _
    · exact KeepsN.refl _
theorem avJoin_keeps (m : Nd) (xm : Nat) : ∀ (f : Nat) (R : Nat → Option (List Nat)) (l r : Nat), m.key = (nodeG R xm).key ∧ m.val = (nodeG R xm).val → KeepsN R (avJoin m xm f R l r).1
  | 0, R, l, r, h => KeepsN.with h
  | f + 1, R, l, r, h => by
    rw [avJoin]
    split
    · have h1 := avJoin_keeps m xm f R (nodeG R l).right r h
      have h2 : KeepsN _ (withR (avJoin m xm f R (nodeG R l).right r).1 (nodeG R l) l (nodeG R l).left (avJoin m xm f R (nodeG R l).right r).2) := KeepsN.with ⟨(h1 _).2.1.symm, (h1 _).2.2.symm⟩
      exact (h1.trans h2).trans (avBal_keeps _ _)
    · split
      · have h1 := avJoin_keeps m xm f R l (nodeG R r).left h
        have h2 : KeepsN _ (withR (avJoin m xm f R l (nodeG R r).left).1 (nodeG R r) r (avJoin m xm f R l (nodeG R r).left).2 (nodeG R r).right) := KeepsN.with ⟨(h1 _).2.1.symm, (h1 _).2.2.symm⟩
        exact (h1.trans h2).trans (avBal_keeps _ _)
      · exact KeepsN.with h
end Go.Proofs.YtjpmlneihbckpaaGreatDoor
/- AVL trees as they stand in records: plain law. -/
set_option linter.unusedVariables false
set_option linter.unusedSimpArgs false
namespace Go.Proofs.YtjpmlneihbckpaaGreatDoor
open Go.RowKit Go.Shelf
namespace BT
def mk : BT → Nat
  | nil => 0
  | node _ _ _ m _ _ _ _ => m
def hgt : BT → Nat
  | nil => 0
  | node _ _ _ _ _ _ l r => max l.hgt r.hgt + 1
def Avl : BT → Prop
  | nil => True
  | node _ _ _ m _ _ l r => m = max l.hgt r.hgt + 1 ∧ l.hgt ≤ r.hgt + 1 ∧ r.hgt ≤ l.hgt + 1 ∧ l.Avl ∧ r.Avl
theorem hgt_le : ∀ t : BT, t.hgt ≤ t.size
  | nil => Nat.le_refl _
  | node _ _ _ _ _ _ l r => by
    have h1 := hgt_le l
    have h2 := hgt_le r
    simp only [hgt, size]
    omega
theorem Avl.mk : ∀ {t : BT}, t.Avl → t.mk = t.hgt
  | nil, _ => rfl
  | node _ _ _ _ _ _ _ _, h => h.1
theorem hgt_pos {t : BT} (h : 0 < t.hgt) : ∃ x kx vx m k v l r, t = node x kx vx m k v l r := by
  cases t with
  | nil => exact absurd h (Nat.lt_irrefl 0)
  | node x kx vx m k v l r => exact ⟨_, _, _, _, _, _, _, _, rfl⟩
/-- two trees of one order -/
structure Sim (t t' : BT) : Prop where
  hs : t'.hs = t.hs
  nodes : t'.nodes = t.nodes
  prs : t'.prs = t.prs
theorem Sim.refl (t : BT) : Sim t t := ⟨rfl, rfl, rfl⟩
theorem Sim.trans {a b c : BT} (h : Sim a b) (k : Sim b c) : Sim a c := ⟨k.hs.trans h.hs, k.nodes.trans h.nodes, k.prs.trans h.prs⟩
theorem Sim.symm {a b : BT} (h : Sim a b) : Sim b a := ⟨h.hs.symm, h.nodes.symm, h.prs.symm⟩
theorem Sim.size {a b : BT} (h : Sim a b) : b.size = a.size := by rw [← nodes_len, ← nodes_len, h.nodes]
theorem Sim.nodup {a b : BT} (h : Sim a b) (n : a.hs.Nodup) : b.hs.Nodup := by rw [h.hs]; exact n
theorem Sim.mem {a b : BT} (h : Sim a b) {z : Nat} (n : z ∉ a.nodes) : z ∉ b.nodes := by rw [h.nodes]; exact n
theorem node_nodup {x kx vx m : Nat} {k v : ByteArray} {l r : BT} : (node x kx vx m k v l r).hs.Nodup ↔ l.hs.Nodup ∧ r.hs.Nodup ∧ (x ∉ l.hs ∧ kx ∉ l.hs ∧ vx ∉ l.hs) ∧ (x ∉ r.hs ∧ kx ∉ r.hs ∧ vx ∉ r.hs) ∧ (x ≠ kx ∧ x ≠ vx ∧ kx ≠ vx) ∧ ∀ z ∈ l.hs, z ∉ r.hs := by
  simp only [hs, List.nodup_append, List.nodup_cons, List.mem_cons, not_or]
  constructor
  · rintro ⟨h1, ⟨⟨a1, a2, a3⟩, ⟨b1, b2⟩, c1, h2⟩, h3⟩
    exact ⟨h1, h2, ⟨fun h => h3 x h x (.inl rfl) rfl, fun h => h3 kx h kx (.inr (.inl rfl)) rfl, fun h => h3 vx h vx (.inr (.inr (.inl rfl))) rfl⟩, ⟨a3, b2, c1⟩, ⟨a1, a2, b1⟩, fun z hz hz' => h3 z hz z (.inr (.inr (.inr hz'))) rfl⟩
  · rintro ⟨h1, h2, ⟨d1, d2, d3⟩, ⟨a3, b2, c1⟩, ⟨a1, a2, b1⟩, h3⟩
    refine ⟨h1, ⟨⟨a1, a2, a3⟩, ⟨b1, b2⟩, c1, h2⟩, ?_⟩
    rintro a ha b (rfl | rfl | rfl | hb) rfl
    · exact d1 ha
    · exact d2 ha
    · exact d3 ha
    · exact h3 a ha hb
section
variable {R : Nat → Option (List Nat)}
theorem nodeG_zero (h0 : R 0 = none) : nodeG R 0 = Nd.zero := by unfold nodeG nodeR; rw [h0]; rfl
theorem avH_at {t : BT} (ht : t.At R) (h0 : R 0 = none) (hm : t.mk = t.hgt) (hs : t.size < 1000000) : avH R t.root = (t.hgt : Nat) := by
  have hle := hgt_le t
  unfold avH
  cases t with
  | nil =>
    rw [root, nodeG_zero h0]
    exact IntWalk.wrap64_in 0 (by omega)
  | node x kx vx m k v l r =>
    obtain ⟨h1, h2, _⟩ := ht
    have h3 : m = (node x kx vx m k v l r).hgt := hm
    rw [root, (nodeR_at h2).2]
    show wrap64 ((m : Nat) : Int) = _
    rw [h3]
    exact IntWalk.wrap64_in _ (by omega)
theorem withR_other {nd : Nd} {x y l r : Nat} (h : y ≠ x) : withR R nd x l r y = R y := putN_other h
theorem with_bt {nd : Nd} {x : Nat} {k v : ByteArray} {l r : BT} (h0 : R 0 = none) (hx : nodeE R x = 0) (x0 : x ≠ 0) (hl : l.At R) (hr : r.At R) (ml : l.mk = l.hgt) (mr : r.mk = r.hgt) (hsz : l.size + r.size < 999999)
    (hk : R nd.key = some (Tx.wordsL k.data.toList)) (hv : R nd.val = some (Tx.wordsL v.data.toList)) (ks : k.size ≤ 1000) (vs : v.size ≤ 1000) (xl : x ∉ l.hs) (xr : x ∉ r.hs) (xk : x ≠ nd.key) (xv : x ≠ nd.val) :
    (node x nd.key nd.val (max l.hgt r.hgt + 1) k v l r).At (withR R nd x l.root r.root) := by
  have e : withN R nd l.root r.root = ⟨nd.key, nd.val, l.root, r.root, max l.hgt r.hgt + 1, l.size + 1 + r.size⟩ := by
    have l1 := hgt_le l
    have l2 := hgt_le r
    unfold withN
    rw [avH_at hl h0 ml (by omega), avH_at hr h0 mr (by omega), tsize_at hl h0 (by omega), tsize_at hr h0 (by omega)]
    rw [show max ((l.hgt : Nat) : Int) (r.hgt : Nat) + 1 = ((max l.hgt r.hgt + 1 : Nat) : Int) by omega, toU_nat _ (by omega)]
    rw [show ((l.size : Nat) : Int) + (r.size : Nat) = ((l.size + r.size : Nat) : Int) by omega, show wrap64 ((l.size + r.size : Nat) : Int) = ((l.size + r.size : Nat) : Int) from IntWalk.wrap64_in _ (by omega)]
    rw [show ((l.size + r.size : Nat) : Int) + 1 = ((l.size + 1 + r.size : Nat) : Int) by omega, toU_nat _ (by omega)]
  refine ⟨x0, ?_, ?_, ?_, ks, vs, hl.congr fun z hz => putN_other (fun e => xl (e ▸ hz)), hr.congr fun z hz => putN_other (fun e => xr (e ▸ hz))⟩
  · unfold withR
    rw [e, putN_same hx]
  · rw [withR_other (fun e => xk e.symm), hk]
  · rw [withR_other (fun e => xv e.symm), hv]
theorem left_bt {x kx vx mx y ky vy my : Nat} {k v k' v' : ByteArray} {A B C : BT} (h0 : R 0 = none) (h : (node x kx vx mx k v A (node y ky vy my k' v' B C)).At R) (hn : (node x kx vx mx k v A (node y ky vy my k' v' B C)).hs.Nodup)
    (sz : (node x kx vx mx k v A (node y ky vy my k' v' B C)).size < 999999) (mA : A.mk = A.hgt) (mB : B.mk = B.hgt) (mC : C.mk = C.hgt) :
    (avLeft R x).2 = y ∧ (node y ky vy (max (max A.hgt B.hgt + 1) C.hgt + 1) k' v' (node x kx vx (max A.hgt B.hgt + 1) k v A B) C).At (avLeft R x).1 ∧ ∀ z, z ≠ x → z ≠ y → (avLeft R x).1 z = R z := by
  obtain ⟨x0, hx, hkx, hvx, kx1, vx1, hA, hY⟩ := h
  obtain ⟨y0, hy, hky, hvy, ky1, vy1, hB, hC⟩ := hY
  obtain ⟨nA, nY, ⟨a1, a2, a3⟩, ⟨b1, b2, b3⟩, ⟨c1, c2, c3⟩, c4⟩ := node_nodup.1 hn
  obtain ⟨nB, nC, ⟨d1, d2, d3⟩, ⟨e1, e2, e3⟩, ⟨f1, f2, f3⟩, f4⟩ := node_nodup.1 nY
  simp only [hs, List.mem_append, List.mem_cons, not_or] at b1 b2 b3 c4
  simp only [size] at sz
  obtain ⟨ex, gx⟩ := nodeR_at hx
  obtain ⟨ey, gy⟩ := nodeR_at hy
  have e : avLeft R x = (withR (withR R ⟨kx, vx, A.root, y, mx, A.size + 1 + (node y ky vy my k' v' B C).size⟩ x A.root B.root) ⟨ky, vy, B.root, C.root, my, B.size + 1 + C.size⟩ y x C.root, y) := by
    unfold avLeft
    rw [gx]
    show (withR (withR R _ x A.root (nodeG R y).left) (nodeG R y) y x (nodeG R y).right, y) = _
    rw [gy]
    rfl
  rw [e]
  generalize hnx : (⟨kx, vx, A.root, y, mx, A.size + 1 + (node y ky vy my k' v' B C).size⟩ : Nd) = ndx
  have hkx' : ndx.key = kx := by rw [← hnx]
  have hvx' : ndx.val = vx := by rw [← hnx]
  subst hkx' hvx'
  have hX : (node x ndx.key ndx.val (max A.hgt B.hgt + 1) k v A B).At (withR R ndx x A.root B.root) :=
    with_bt h0 ex x0 hA hB mA mB (by omega) hkx hvx kx1 vx1 a1 b1.1 c1 c2
  have hoth : ∀ z, z ≠ x → withR R ndx x A.root B.root z = R z := fun z hz => withR_other hz
  have h01 : withR R ndx x A.root B.root 0 = none := (hoth 0 (fun e => x0 e.symm)).trans h0
  have hC1 : C.At (withR R ndx x A.root B.root) := hC.congr fun z hz => hoth z (fun e => b1.2.2.2.2 (e ▸ hz))
  have ey1 : nodeE (withR R ndx x A.root B.root) y = 0 := (nodeE_congr (hoth y (fun e => b1.2.1 e.symm))).1.trans ey
  refine ⟨rfl, ?_, ?_⟩
  · exact with_bt (nd := ⟨ky, vy, B.root, C.root, my, B.size + 1 + C.size⟩) (l := node x ndx.key ndx.val (max A.hgt B.hgt + 1) k v A B) h01 ey1 y0 hX hC1 rfl mC (by simp only [size]; omega)
      ((hoth ky (fun e => b1.2.2.1 e.symm)).trans hky) ((hoth vy (fun e => b1.2.2.2.1 e.symm)).trans hvy) ky1 vy1
      (by
        simp only [hs, List.mem_append, List.mem_cons, not_or]
        exact ⟨fun h => (c4 y h).2.1 rfl, fun e => b1.2.1 e.symm, fun e => b2.2.1 e.symm, fun e => b3.2.1 e.symm, d1⟩) e1 f1 f2
  · intro z zx zy
    show withR _ _ y x C.root z = R z
    rw [withR_other zy, hoth z zx]
theorem right_bt {x kx vx mx y ky vy my : Nat} {k v k' v' : ByteArray} {A B C : BT} (h0 : R 0 = none) (h : (node x kx vx mx k v (node y ky vy my k' v' A B) C).At R) (hn : (node x kx vx mx k v (node y ky vy my k' v' A B) C).hs.Nodup)
    (sz : (node x kx vx mx k v (node y ky vy my k' v' A B) C).size < 999999) (mA : A.mk = A.hgt) (mB : B.mk = B.hgt) (mC : C.mk = C.hgt) :
    (avRight R x).2 = y ∧ (node y ky vy (max A.hgt (max B.hgt C.hgt + 1) + 1) k' v' A (node x kx vx (max B.hgt C.hgt + 1) k v B C)).At (avRight R x).1 ∧ ∀ z, z ≠ x → z ≠ y → (avRight R x).1 z = R z := by
  obtain ⟨x0, hx, hkx, hvx, kx1, vx1, hY, hC⟩ := h
  obtain ⟨y0, hy, hky, hvy, ky1, vy1, hA, hB⟩ := hY
  obtain ⟨nY, nC, ⟨b1, b2, b3⟩, ⟨a1, a2, a3⟩, ⟨c1, c2, c3⟩, c4⟩ := node_nodup.1 hn
  obtain ⟨nA, nB, ⟨d1, d2, d3⟩, ⟨e1, e2, e3⟩, ⟨f1, f2, f3⟩, f4⟩ := node_nodup.1 nY
  have yC : y ∉ C.hs := c4 y (by simp [hs])
  simp only [hs, List.mem_append, List.mem_cons, not_or] at b1 b2 b3
  simp only [size] at sz
  obtain ⟨ex, gx⟩ := nodeR_at hx
  obtain ⟨ey, gy⟩ := nodeR_at hy
  have e : avRight R x = (withR (withR R ⟨kx, vx, y, C.root, mx, (node y ky vy my k' v' A B).size + 1 + C.size⟩ x B.root C.root) ⟨ky, vy, A.root, B.root, my, A.size + 1 + B.size⟩ y A.root x, y) := by
    unfold avRight
    rw [gx]
    show (withR (withR R _ x (nodeG R y).right C.root) (nodeG R y) y (nodeG R y).left x, y) = _
    rw [gy]
    rfl
  rw [e]
  generalize hnx : (⟨kx, vx, y, C.root, mx, (node y ky vy my k' v' A B).size + 1 + C.size⟩ : Nd) = ndx
  have hkx' : ndx.key = kx := by rw [← hnx]
  have hvx' : ndx.val = vx := by rw [← hnx]
  subst hkx' hvx'
  have hX : (node x ndx.key ndx.val (max B.hgt C.hgt + 1) k v B C).At (withR R ndx x B.root C.root) :=
    with_bt h0 ex x0 hB hC mB mC (by omega) hkx hvx kx1 vx1 b1.2.2.2.2 a1 c1 c2
  have hoth : ∀ z, z ≠ x → withR R ndx x B.root C.root z = R z := fun z hz => withR_other hz
  have h01 : withR R ndx x B.root C.root 0 = none := (hoth 0 (fun e => x0 e.symm)).trans h0
  have hA1 : A.At (withR R ndx x B.root C.root) := hA.congr fun z hz => hoth z (fun e => b1.1 (e ▸ hz))
  have ey1 : nodeE (withR R ndx x B.root C.root) y = 0 := (nodeE_congr (hoth y (fun e => b1.2.1 e.symm))).1.trans ey
  refine ⟨rfl, ?_, ?_⟩
  · exact with_bt (nd := ⟨ky, vy, A.root, B.root, my, A.size + 1 + B.size⟩) (r := node x ndx.key ndx.val (max B.hgt C.hgt + 1) k v B C) h01 ey1 y0 hA1 hX mA rfl (by simp only [size]; omega)
      ((hoth ky (fun e => b1.2.2.1 e.symm)).trans hky) ((hoth vy (fun e => b1.2.2.2.1 e.symm)).trans hvy) ky1 vy1 d1
      (by
        simp only [hs, List.mem_append, List.mem_cons, not_or]
        exact ⟨e1, fun e => b1.2.1 e.symm, fun e => b2.2.1 e.symm, fun e => b3.2.1 e.symm, yC⟩) f1 f2
  · intro z zx zy
    show withR _ _ y A.root x z = R z
    rw [withR_other zy, hoth z zx]
theorem At.root_at {x kx vx m : Nat} {k v : ByteArray} {l r : BT} (h : (node x kx vx m k v l r).At R) : nodeE R x = 0 ∧ nodeG R x = ⟨kx, vx, l.root, r.root, m, l.size + 1 + r.size⟩ := nodeR_at h.2.1
end
end BT
end Go.Proofs.YtjpmlneihbckpaaGreatDoor
/- Heights: reckoning. -/
set_option linter.unusedVariables false
set_option linter.unusedSimpArgs false
namespace Go.Proofs.YtjpmlneihbckpaaGreatDoor
open Go.RowKit Go.Shelf
namespace BT
theorem ar1 {b c e g : Nat} (h1 : b + 2 ≤ max c (max e g + 1) + 1) (h2 : max c (max e g + 1) + 1 ≤ b + 2) (h3 : c < max e g + 1) (h4 : max e g + 1 ≤ c + 1) (h5 : e ≤ g + 1) (h6 : g ≤ e + 1) :
    max c e + 1 ≤ max g b + 1 + 1 ∧ max g b + 1 ≤ max c e + 1 + 1 ∧ c ≤ e + 1 ∧ e ≤ c + 1 ∧ g ≤ b + 1 ∧ b ≤ g + 1 ∧ max (max c (max e g + 1) + 1) b = c + 2 ∧ max (max c e + 1) (max g b + 1) + 1 = c + 2 ∧ max c (max e g + 1) + 1 = c + 2 ∧ b = c := by
  have hm : max e g = c := by omega
  rw [hm, Nat.max_eq_right (show c ≤ c + 1 by omega)] at h1 h2 ⊢
  obtain rfl : b = c := by omega
  have e1 : e ≤ b := hm ▸ Nat.le_max_left e g
  have g1 : g ≤ b := hm ▸ Nat.le_max_right e g
  rw [Nat.max_eq_left e1, Nat.max_eq_right g1, Nat.max_self]
  have e2 : b ≤ e + 1 := by rw [← hm]; exact Nat.max_le.2 ⟨by omega, by omega⟩
  have g2 : b ≤ g + 1 := by rw [← hm]; exact Nat.max_le.2 ⟨by omega, by omega⟩
  rw [Nat.max_eq_left (show b ≤ b + 1 + 1 by omega)]
  clear hm
  omega
theorem ar2 {b c d : Nat} (h1 : b + 2 ≤ max c d + 1) (h2 : max c d + 1 ≤ b + 2) (h3 : ¬ c < d) (h4 : c ≤ d + 1) :
    c ≤ max d b + 1 + 1 ∧ max d b + 1 ≤ c + 1 ∧ d ≤ b + 1 ∧ b ≤ d + 1 ∧ max (max c d + 1) b = c + 1 ∧ (max c (max d b + 1) + 1 = c + 1 ∨ max c (max d b + 1) + 1 = c + 2) ∧ b + 1 = c := by
  rw [Nat.max_eq_left (show d ≤ c by omega)] at h1 h2 ⊢
  rw [Nat.max_eq_left (show b ≤ d by omega), Nat.max_eq_left (show b ≤ c + 1 by omega)]
  rcases Nat.le_total c (d + 1) with h | h
  · rw [Nat.max_eq_right h]; omega
  · rw [Nat.max_eq_left h]; omega
theorem ar3 {a d e g : Nat} (h1 : a + 2 ≤ max (max e g + 1) d + 1) (h2 : max (max e g + 1) d + 1 ≤ a + 2) (h3 : d < max e g + 1) (h4 : max e g + 1 ≤ d + 1) (h5 : e ≤ g + 1) (h6 : g ≤ e + 1) :
    max a e + 1 ≤ max g d + 1 + 1 ∧ max g d + 1 ≤ max a e + 1 + 1 ∧ a ≤ e + 1 ∧ e ≤ a + 1 ∧ g ≤ d + 1 ∧ d ≤ g + 1 ∧ max a (max (max e g + 1) d + 1) = d + 2 ∧ max (max a e + 1) (max g d + 1) + 1 = d + 2 ∧ a = d := by
  have hm : max e g = d := by omega
  rw [hm, Nat.max_eq_left (show d ≤ d + 1 by omega)] at h1 h2 ⊢
  obtain rfl : a = d := by omega
  have e1 : e ≤ a := hm ▸ Nat.le_max_left e g
  have g1 : g ≤ a := hm ▸ Nat.le_max_right e g
  rw [Nat.max_eq_left e1, Nat.max_eq_right g1, Nat.max_self]
  have e2 : a ≤ e + 1 := by rw [← hm]; exact Nat.max_le.2 ⟨by omega, by omega⟩
  have g2 : a ≤ g + 1 := by rw [← hm]; exact Nat.max_le.2 ⟨by omega, by omega⟩
  rw [Nat.max_eq_right (show a ≤ a + 1 + 1 by omega)]
  clear hm
  omega
theorem ar4 {a c d : Nat} (h1 : a + 2 ≤ max c d + 1) (h2 : max c d + 1 ≤ a + 2) (h3 : ¬ d < c) (h4 : d ≤ c + 1) :
    max a c + 1 ≤ d + 1 ∧ d ≤ max a c + 1 + 1 ∧ a ≤ c + 1 ∧ c ≤ a + 1 ∧ max a (max c d + 1) = d + 1 ∧ (max (max a c + 1) d + 1 = d + 1 ∨ max (max a c + 1) d + 1 = d + 2) ∧ a + 1 = d := by
  rw [Nat.max_eq_right (show c ≤ d by omega)] at h1 h2 ⊢
  rw [Nat.max_eq_right (show a ≤ c by omega), Nat.max_eq_right (show a ≤ d + 1 by omega)]
  rcases Nat.le_total d (c + 1) with h | h
  · rw [Nat.max_eq_left h]; omega
  · rw [Nat.max_eq_right h]; omega
theorem jr1 {a b r t : Nat} (h1 : r + 1 < max a b + 1) (h2 : a ≤ b + 1) (h3 : b ≤ a + 1) (h4 : max b r ≤ t) (h5 : t ≤ max b r + 1) :
    a ≤ t + 2 ∧ t ≤ a + 2 ∧ ∀ u, (a ≤ t + 1 → t ≤ a + 1 → u = max a t + 1) → max a t ≤ u → u ≤ max a t + 1 → max (max a b + 1) r ≤ u ∧ u ≤ max (max a b + 1) r + 1 := by
  have hr : r ≤ b := by rcases Nat.le_total a b with h | h <;> simp only [Nat.max_eq_left h, Nat.max_eq_right h] at h1 <;> omega
  rw [Nat.max_eq_left hr] at h4 h5
  rw [Nat.max_eq_left (show r ≤ max a b + 1 by omega)]
  refine ⟨by omega, by omega, fun u e1 e2 e3 => ?_⟩
  rcases Nat.le_total a b with h | h
  · rw [Nat.max_eq_right h]
    rw [Nat.max_eq_right (show a ≤ t by omega)] at e1 e2 e3
    by_cases c : t ≤ a + 1
    · have := e1 (by omega) c; omega
    · omega
  · rw [Nat.max_eq_left h]
    by_cases c : t ≤ a + 1
    · have := e1 (by omega) c; rcases Nat.le_total a t with k | k
      · rw [Nat.max_eq_right k] at this; omega
      · rw [Nat.max_eq_left k] at this; omega
    · rw [Nat.max_eq_right (show a ≤ t by omega)] at e2 e3; omega
theorem jr2 {a b l t : Nat} (h1 : l + 1 < max a b + 1) (h2 : a ≤ b + 1) (h3 : b ≤ a + 1) (h4 : max l a ≤ t) (h5 : t ≤ max l a + 1) :
    t ≤ b + 2 ∧ b ≤ t + 2 ∧ ∀ u, (t ≤ b + 1 → b ≤ t + 1 → u = max t b + 1) → max t b ≤ u → u ≤ max t b + 1 → max l (max a b + 1) ≤ u ∧ u ≤ max l (max a b + 1) + 1 := by
  have := jr1 (a := b) (b := a) (r := l) (t := t) (by rw [Nat.max_comm]; exact h1) h3 h2 (by rw [Nat.max_comm]; exact h4) (by rw [Nat.max_comm]; exact h5)
  refine ⟨this.2.1, this.1, fun u e1 e2 e3 => ?_⟩
  rw [Nat.max_comm l, Nat.max_comm a]
  exact this.2.2 u (fun p q => by rw [Nat.max_comm]; exact e1 q p) (by rw [Nat.max_comm]; exact e2) (by rw [Nat.max_comm]; exact e3)
theorem sim_left {x kx vx mx y ky vy my mx' my' : Nat} {k v k' v' : ByteArray} {A B C : BT} : Sim (node x kx vx mx k v A (node y ky vy my k' v' B C)) (node y ky vy my' k' v' (node x kx vx mx' k v A B) C) :=
  ⟨by simp only [hs, List.append_assoc, List.cons_append], by simp only [nodes, List.append_assoc, List.cons_append], by simp only [prs, List.append_assoc, List.cons_append]⟩
theorem sim_right {x kx vx mx y ky vy my mx' my' : Nat} {k v k' v' : ByteArray} {A B C : BT} : Sim (node x kx vx mx k v (node y ky vy my k' v' A B) C) (node y ky vy my' k' v' A (node x kx vx mx' k v B C)) :=
  ⟨by simp only [hs, List.append_assoc, List.cons_append], by simp only [nodes, List.append_assoc, List.cons_append], by simp only [prs, List.append_assoc, List.cons_append]⟩
theorem sim_in {x kx vx m m' : Nat} {k v : ByteArray} {l l' r r' : BT} (h : Sim l l') (h' : Sim r r') : Sim (node x kx vx m k v l r) (node x kx vx m' k v l' r') :=
  ⟨by simp only [hs, h.hs, h'.hs], by simp only [nodes, h.nodes, h'.nodes], by simp only [prs, h.prs, h'.prs]⟩
end BT
end Go.Proofs.YtjpmlneihbckpaaGreatDoor
/- AVL trees: balancing, plain law. -/
set_option linter.unusedVariables false
set_option linter.unusedSimpArgs false
namespace Go.Proofs.YtjpmlneihbckpaaGreatDoor
open Go.RowKit Go.Shelf
namespace BT
/-- a tree T that was mended -/
structure BalOut (R R' : Nat → Option (List Nat)) (y : Nat) (T t : BT) : Prop where
  root : y = t.root
  at' : t.At R'
  sim : Sim T t
  avl : t.Avl
  frame : ∀ z, z ∉ T.nodes → R' z = R z
section
variable {R : Nat → Option (List Nat)} {x kx vx mx y ky vy my z kz vz mz : Nat} {k v k' v' k2 v2 : ByteArray} {A B C D E G : BT}
theorem bal_ll (h0 : R 0 = none) (h : (node x kx vx mx k v (node y ky vy my k' v' C D) B).At R) (hn : (node x kx vx mx k v (node y ky vy my k' v' C D) B).hs.Nodup)
    (sz : (node x kx vx mx k v (node y ky vy my k' v' C D) B).size < 999999) (aC : C.Avl) (aD : D.Avl) (aB : B.Avl)
    (p1 : C.hgt ≤ max D.hgt B.hgt + 1 + 1) (p2 : max D.hgt B.hgt + 1 ≤ C.hgt + 1) (p3 : D.hgt ≤ B.hgt + 1) (p4 : B.hgt ≤ D.hgt + 1) :
    BalOut R (avRight R x).1 (avRight R x).2 (node x kx vx mx k v (node y ky vy my k' v' C D) B) (node y ky vy (max C.hgt (max D.hgt B.hgt + 1) + 1) k' v' C (node x kx vx (max D.hgt B.hgt + 1) k v D B)) := by
  obtain ⟨s1, s2, s3⟩ := right_bt h0 h hn sz aC.mk aD.mk aB.mk
  refine ⟨s1, s2, sim_right, ⟨rfl, p1, p2, aC, rfl, p3, p4, aD, aB⟩, fun u hu => ?_⟩
  simp only [nodes, List.mem_append, List.mem_cons, not_or] at hu
  exact s3 u hu.2.1 hu.1.2.1
theorem bal_rr (h0 : R 0 = none) (h : (node x kx vx mx k v A (node y ky vy my k' v' C D)).At R) (hn : (node x kx vx mx k v A (node y ky vy my k' v' C D)).hs.Nodup)
    (sz : (node x kx vx mx k v A (node y ky vy my k' v' C D)).size < 999999) (aA : A.Avl) (aC : C.Avl) (aD : D.Avl)
    (p1 : max A.hgt C.hgt + 1 ≤ D.hgt + 1) (p2 : D.hgt ≤ max A.hgt C.hgt + 1 + 1) (p3 : A.hgt ≤ C.hgt + 1) (p4 : C.hgt ≤ A.hgt + 1) :
    BalOut R (avLeft R x).1 (avLeft R x).2 (node x kx vx mx k v A (node y ky vy my k' v' C D)) (node y ky vy (max (max A.hgt C.hgt + 1) D.hgt + 1) k' v' (node x kx vx (max A.hgt C.hgt + 1) k v A C) D) := by
  obtain ⟨s1, s2, s3⟩ := left_bt h0 h hn sz aA.mk aC.mk aD.mk
  refine ⟨s1, s2, sim_left, ⟨rfl, p1, p2, ⟨rfl, p3, p4, aA, aC⟩, aD⟩, fun u hu => ?_⟩
  simp only [nodes, List.mem_append, List.mem_cons, not_or] at hu
  exact s3 u hu.2.1 hu.2.2.2.1
/-- the near side is turned first: left -/
theorem bal_lr (h0 : R 0 = none) (h : (node x kx vx mx k v (node y ky vy my k' v' C (node z kz vz mz k2 v2 E G)) B).At R) (hn : (node x kx vx mx k v (node y ky vy my k' v' C (node z kz vz mz k2 v2 E G)) B).hs.Nodup)
    (sz : (node x kx vx mx k v (node y ky vy my k' v' C (node z kz vz mz k2 v2 E G)) B).size < 999999) (aC : C.Avl) (aE : E.Avl) (aG : G.Avl) (aB : B.Avl)
    (p1 : max C.hgt E.hgt + 1 ≤ max G.hgt B.hgt + 1 + 1) (p2 : max G.hgt B.hgt + 1 ≤ max C.hgt E.hgt + 1 + 1) (p3 : C.hgt ≤ E.hgt + 1) (p4 : E.hgt ≤ C.hgt + 1) (p5 : G.hgt ≤ B.hgt + 1) (p6 : B.hgt ≤ G.hgt + 1) :
    (avLeft R y).2 = z ∧ BalOut R (avRight (withR (avLeft R y).1 (nodeG R x) x z B.root) x).1 (avRight (withR (avLeft R y).1 (nodeG R x) x z B.root) x).2 (node x kx vx mx k v (node y ky vy my k' v' C (node z kz vz mz k2 v2 E G)) B)
      (node z kz vz (max (max C.hgt E.hgt + 1) (max G.hgt B.hgt + 1) + 1) k2 v2 (node y ky vy (max C.hgt E.hgt + 1) k' v' C E) (node x kx vx (max G.hgt B.hgt + 1) k v G B)) := by
  obtain ⟨ex, gx⟩ := h.root_at
  have hA := h.2.2.2.2.2.2.1
  have hB := h.2.2.2.2.2.2.2
  have hD := hA.2.2.2.2.2.2.2
  obtain ⟨nA, nB, ⟨a1, a2, a3⟩, ⟨b1, b2, b3⟩, ⟨c1, c2, c3⟩, c4⟩ := node_nodup.1 hn
  have zz := sz
  simp only [size] at zz
  obtain ⟨r1, r2, r3⟩ := left_bt h0 hA nA (by simp only [size]; omega) aC.mk aE.mk aG.mk
  have zin : z ∈ (node y ky vy my k' v' C (node z kz vz mz k2 v2 E G)).hs := by simp [hs]
  have yin : y ∈ (node y ky vy my k' v' C (node z kz vz mz k2 v2 E G)).hs := by simp [hs]
  have eqx : (avLeft R y).1 x = R x := r3 x (fun e => a1 (e ▸ yin)) (fun e => a1 (e ▸ zin))
  have h01 : (avLeft R y).1 0 = none := (r3 0 (fun e => hA.1 e.symm) (fun e => hD.1 e.symm)).trans h0
  have hB1 : B.At (avLeft R y).1 := hB.congr fun u hu => r3 u (fun e => c4 y yin (e ▸ hu)) (fun e => c4 z zin (e ▸ hu))
  have sl : Sim (node y ky vy my k' v' C (node z kz vz mz k2 v2 E G)) (node z kz vz (max (max C.hgt E.hgt + 1) G.hgt + 1) k2 v2 (node y ky vy (max C.hgt E.hgt + 1) k' v' C E) G) := sim_left
  have hkx : (avLeft R y).1 kx = some (Tx.wordsL k.data.toList) := (r3 kx (fun e => a2 (e ▸ yin)) (fun e => a2 (e ▸ zin))).trans h.2.2.1
  have hvx : (avLeft R y).1 vx = some (Tx.wordsL v.data.toList) := (r3 vx (fun e => a3 (e ▸ yin)) (fun e => a3 (e ▸ zin))).trans h.2.2.2.1
  have hk : (nodeG R x).key = kx := by rw [gx]
  have hv : (nodeG R x).val = vx := by rw [gx]
  have hwt := with_bt (R := (avLeft R y).1) (nd := nodeG R x) (x := x) (k := k) (v := v) h01 ((nodeE_congr eqx).1.trans ex) h.1 r2 hB1 rfl aB.mk (by simp only [size]; omega)
    (by rw [hk]; exact hkx) (by rw [hv]; exact hvx) h.2.2.2.2.1 h.2.2.2.2.2.1 (by rw [sl.hs]; exact a1) b1 (by rw [hk]; exact c1) (by rw [hv]; exact c2)
  rw [hk, hv] at hwt
  have hoth : ∀ u, u ≠ x → withR (avLeft R y).1 (nodeG R x) x z B.root u = (avLeft R y).1 u := fun u hu => withR_other hu
  have hwt' : (node x kx vx (max (max (max C.hgt E.hgt + 1) G.hgt + 1) B.hgt + 1) k v (node z kz vz (max (max C.hgt E.hgt + 1) G.hgt + 1) k2 v2 (node y ky vy (max C.hgt E.hgt + 1) k' v' C E) G) B).At (withR (avLeft R y).1 (nodeG R x) x z B.root) := hwt
  clear hwt
  generalize withR (avLeft R y).1 (nodeG R x) x z B.root = R2 at *
  have sl2 : Sim (node x kx vx mx k v (node y ky vy my k' v' C (node z kz vz mz k2 v2 E G)) B) (node x kx vx (max (max (max C.hgt E.hgt + 1) G.hgt + 1) B.hgt + 1) k v (node z kz vz (max (max C.hgt E.hgt + 1) G.hgt + 1) k2 v2 (node y ky vy (max C.hgt E.hgt + 1) k' v' C E) G) B) := sim_in sl (Sim.refl B)
  obtain ⟨s1, s2, s3⟩ := right_bt ((hoth 0 (fun e => h.1 e.symm)).trans h01) hwt' (sl2.nodup hn) (by rw [sl2.size]; exact sz) rfl aG.mk aB.mk
  refine ⟨r1, s1, s2, sl2.trans sim_right, ⟨rfl, p1, p2, ⟨rfl, p3, p4, aC, aE⟩, rfl, p5, p6, aG, aB⟩, fun u hu => ?_⟩
  simp only [nodes, List.mem_append, List.mem_cons, not_or] at hu
  rw [s3 u hu.2.1 hu.1.2.2.2.1, hoth u hu.2.1, r3 u hu.1.2.1 hu.1.2.2.2.1]
theorem bal_rl (h0 : R 0 = none) (h : (node x kx vx mx k v A (node y ky vy my k' v' (node z kz vz mz k2 v2 E G) D)).At R) (hn : (node x kx vx mx k v A (node y ky vy my k' v' (node z kz vz mz k2 v2 E G) D)).hs.Nodup)
    (sz : (node x kx vx mx k v A (node y ky vy my k' v' (node z kz vz mz k2 v2 E G) D)).size < 999999) (aA : A.Avl) (aE : E.Avl) (aG : G.Avl) (aD : D.Avl)
    (p1 : max A.hgt E.hgt + 1 ≤ max G.hgt D.hgt + 1 + 1) (p2 : max G.hgt D.hgt + 1 ≤ max A.hgt E.hgt + 1 + 1) (p3 : A.hgt ≤ E.hgt + 1) (p4 : E.hgt ≤ A.hgt + 1) (p5 : G.hgt ≤ D.hgt + 1) (p6 : D.hgt ≤ G.hgt + 1) :
    (avRight R y).2 = z ∧ BalOut R (avLeft (withR (avRight R y).1 (nodeG R x) x A.root z) x).1 (avLeft (withR (avRight R y).1 (nodeG R x) x A.root z) x).2 (node x kx vx mx k v A (node y ky vy my k' v' (node z kz vz mz k2 v2 E G) D))
      (node z kz vz (max (max A.hgt E.hgt + 1) (max G.hgt D.hgt + 1) + 1) k2 v2 (node x kx vx (max A.hgt E.hgt + 1) k v A E) (node y ky vy (max G.hgt D.hgt + 1) k' v' G D)) := by
  obtain ⟨ex, gx⟩ := h.root_at
  have hA := h.2.2.2.2.2.2.1
  have hB := h.2.2.2.2.2.2.2
  have hC := hB.2.2.2.2.2.2.1
  obtain ⟨nA, nB, ⟨a1, a2, a3⟩, ⟨b1, b2, b3⟩, ⟨c1, c2, c3⟩, c4⟩ := node_nodup.1 hn
  have zz := sz
  simp only [size] at zz
  obtain ⟨r1, r2, r3⟩ := right_bt h0 hB nB (by simp only [size]; omega) aE.mk aG.mk aD.mk
  have zin : z ∈ (node y ky vy my k' v' (node z kz vz mz k2 v2 E G) D).hs := by simp [hs]
  have yin : y ∈ (node y ky vy my k' v' (node z kz vz mz k2 v2 E G) D).hs := by simp [hs]
  have eqx : (avRight R y).1 x = R x := r3 x (fun e => b1 (e ▸ yin)) (fun e => b1 (e ▸ zin))
  have h01 : (avRight R y).1 0 = none := (r3 0 (fun e => hB.1 e.symm) (fun e => hC.1 e.symm)).trans h0
  have hA1 : A.At (avRight R y).1 := hA.congr fun u hu => r3 u (fun e => c4 u hu (e ▸ yin)) (fun e => c4 u hu (e ▸ zin))
  have sl : Sim (node y ky vy my k' v' (node z kz vz mz k2 v2 E G) D) (node z kz vz (max E.hgt (max G.hgt D.hgt + 1) + 1) k2 v2 E (node y ky vy (max G.hgt D.hgt + 1) k' v' G D)) := sim_right
  have hkx : (avRight R y).1 kx = some (Tx.wordsL k.data.toList) := (r3 kx (fun e => b2 (e ▸ yin)) (fun e => b2 (e ▸ zin))).trans h.2.2.1
  have hvx : (avRight R y).1 vx = some (Tx.wordsL v.data.toList) := (r3 vx (fun e => b3 (e ▸ yin)) (fun e => b3 (e ▸ zin))).trans h.2.2.2.1
  have hk : (nodeG R x).key = kx := by rw [gx]
  have hv : (nodeG R x).val = vx := by rw [gx]
  have hwt := with_bt (R := (avRight R y).1) (nd := nodeG R x) (x := x) (k := k) (v := v) h01 ((nodeE_congr eqx).1.trans ex) h.1 hA1 r2 aA.mk rfl (by simp only [size]; omega)
    (by rw [hk]; exact hkx) (by rw [hv]; exact hvx) h.2.2.2.2.1 h.2.2.2.2.2.1 a1 (by rw [sl.hs]; exact b1) (by rw [hk]; exact c1) (by rw [hv]; exact c2)
  rw [hk, hv] at hwt
  have hoth : ∀ u, u ≠ x → withR (avRight R y).1 (nodeG R x) x A.root z u = (avRight R y).1 u := fun u hu => withR_other hu
  have hwt' : (node x kx vx (max A.hgt (max E.hgt (max G.hgt D.hgt + 1) + 1) + 1) k v A (node z kz vz (max E.hgt (max G.hgt D.hgt + 1) + 1) k2 v2 E (node y ky vy (max G.hgt D.hgt + 1) k' v' G D))).At (withR (avRight R y).1 (nodeG R x) x A.root z) := hwt
  clear hwt
  generalize withR (avRight R y).1 (nodeG R x) x A.root z = R2 at *
  have sl2 : Sim (node x kx vx mx k v A (node y ky vy my k' v' (node z kz vz mz k2 v2 E G) D)) (node x kx vx (max A.hgt (max E.hgt (max G.hgt D.hgt + 1) + 1) + 1) k v A (node z kz vz (max E.hgt (max G.hgt D.hgt + 1) + 1) k2 v2 E (node y ky vy (max G.hgt D.hgt + 1) k' v' G D))) := sim_in (Sim.refl A) sl
  obtain ⟨s1, s2, s3⟩ := left_bt ((hoth 0 (fun e => h.1 e.symm)).trans h01) hwt' (sl2.nodup hn) (by rw [sl2.size]; exact sz) aA.mk aE.mk rfl
  refine ⟨r1, s1, s2, sl2.trans sim_left, ⟨rfl, p1, p2, ⟨rfl, p3, p4, aA, aE⟩, rfl, p5, p6, aG, aD⟩, fun u hu => ?_⟩
  simp only [nodes, List.mem_append, List.mem_cons, not_or] at hu
  rw [s3 u hu.2.1 hu.2.2.1.2.1, hoth u hu.2.1, r3 u hu.2.2.2.1 hu.2.2.1.2.1]
end
end BT
end Go.Proofs.YtjpmlneihbckpaaGreatDoor
/- AVL trees: joining, plain law. -/
set_option linter.unusedVariables false
set_option linter.unusedSimpArgs false
namespace Go.Proofs.YtjpmlneihbckpaaGreatDoor
open Go.RowKit Go.Shelf
namespace BT
section
variable {R : Nat → Option (List Nat)}
theorem bal_bt {x kx vx : Nat} {k v : ByteArray} {A B : BT} (h0 : R 0 = none) (h : (node x kx vx (max A.hgt B.hgt + 1) k v A B).At R) (hn : (node x kx vx (max A.hgt B.hgt + 1) k v A B).hs.Nodup)
    (sz : (node x kx vx (max A.hgt B.hgt + 1) k v A B).size < 999999) (aA : A.Avl) (aB : B.Avl) (d1 : A.hgt ≤ B.hgt + 2) (d2 : B.hgt ≤ A.hgt + 2) :
    ∃ t' : BT, BalOut R (avBal R x).1 (avBal R x).2 (node x kx vx (max A.hgt B.hgt + 1) k v A B) t' ∧
      (A.hgt ≤ B.hgt + 1 → B.hgt ≤ A.hgt + 1 → t'.hgt = max A.hgt B.hgt + 1) ∧ max A.hgt B.hgt ≤ t'.hgt ∧ t'.hgt ≤ max A.hgt B.hgt + 1 := by
  obtain ⟨ex, gx⟩ := h.root_at
  have hA := h.2.2.2.2.2.2.1
  have hB := h.2.2.2.2.2.2.2
  have hdd : wrap64 (avH R A.root - avH R B.root) = (A.hgt : Int) - (B.hgt : Int) := by
    have l1 := hgt_le A
    have l2 := hgt_le B
    simp only [size] at sz
    rw [avH_at hA h0 aA.mk (by omega), avH_at hB h0 aB.mk (by omega), IntWalk.wrap64_in _ (by omega)]
  have hgl : (nodeG R x).left = A.root := by rw [gx]
  have hgr : (nodeG R x).right = B.root := by rw [gx]
  have hun : avBal R x = if 1 < (A.hgt : Int) - (B.hgt : Int) then
      if avH R (nodeG R A.root).left < avH R (nodeG R A.root).right then
        avRight (withR (avLeft R A.root).1 (nodeG R x) x (avLeft R A.root).2 B.root) x
      else avRight R x
    else if (A.hgt : Int) - (B.hgt : Int) < -1 then
      if avH R (nodeG R B.root).right < avH R (nodeG R B.root).left then
        avLeft (withR (avRight R B.root).1 (nodeG R x) x A.root (avRight R B.root).2) x
      else avLeft R x
    else (R, x) := by
    unfold avBal
    rw [hgl, hgr, hdd]
  rw [hun]
  clear hun hdd hgl hgr
  by_cases q1 : B.hgt + 2 ≤ A.hgt
  · rw [if_pos (show 1 < (A.hgt : Int) - (B.hgt : Int) by omega)]
    obtain ⟨y, ky, vy, my, k', v', C, D, rfl⟩ := hgt_pos (t := A) (by omega)
    obtain ⟨rfl, g1, g2, aC, aD⟩ := aA
    have hC := hA.2.2.2.2.2.2.1
    have hD := hA.2.2.2.2.2.2.2
    have hc1 : avH R C.root = (C.hgt : Nat) := avH_at hC h0 aC.mk (by simp only [size] at sz; omega)
    have hc2 : avH R D.root = (D.hgt : Nat) := avH_at hD h0 aD.mk (by simp only [size] at sz; omega)
    rw [show (node y ky vy (max C.hgt D.hgt + 1) k' v' C D).root = y from rfl, (hA.root_at).2]
    simp only [hc1, hc2]
    by_cases q2 : C.hgt < D.hgt
    · rw [if_pos (by omega)]
      obtain ⟨z, kz, vz, mz, k2, v2, E, G, rfl⟩ := hgt_pos (t := D) (by omega)
      obtain ⟨rfl, g3, g4, aE, aG⟩ := aD
      obtain ⟨p1, p2, p3, p4, p5, p6, p7, p8, p9, p10⟩ := ar1 q1 d1 q2 g2 g3 g4
      obtain ⟨r1, r2⟩ := bal_lr h0 h hn sz aC aE aG aB p1 p2 p3 p4 p5 p6
      rw [r1]
      have hh : (node z kz vz (max (max C.hgt E.hgt + 1) (max G.hgt B.hgt + 1) + 1) k2 v2 (node y ky vy (max C.hgt E.hgt + 1) k' v' C E) (node x kx vx (max G.hgt B.hgt + 1) k v G B)).hgt = C.hgt + 2 := p8
      have hm : max (node y ky vy (max C.hgt (node z kz vz (max E.hgt G.hgt + 1) k2 v2 E G).hgt + 1) k' v' C (node z kz vz (max E.hgt G.hgt + 1) k2 v2 E G)).hgt B.hgt = C.hgt + 2 := p7
      refine ⟨_, r2, fun f1 _ => absurd (Nat.le_trans q1 f1) (by omega), ?_, ?_⟩
      · rw [hh, hm]; exact Nat.le_refl _
      · rw [hh, hm]; exact Nat.le_succ _
    · rw [if_neg (by omega)]
      obtain ⟨p1, p2, p3, p4, p5, p6, p7⟩ := ar2 q1 d1 q2 g1
      have r2 := bal_ll h0 h hn sz aC aD aB p1 p2 p3 p4
      have hm : max (node y ky vy (max C.hgt D.hgt + 1) k' v' C D).hgt B.hgt = C.hgt + 1 := p5
      refine ⟨_, r2, fun f1 _ => absurd (Nat.le_trans q1 f1) (by omega), ?_, ?_⟩
      · rw [hm]; show _ ≤ max C.hgt (max D.hgt B.hgt + 1) + 1; rcases p6 with e | e <;> rw [e] <;> omega
      · rw [hm]; show max C.hgt (max D.hgt B.hgt + 1) + 1 ≤ _; rcases p6 with e | e <;> rw [e] <;> omega
  · rw [if_neg (show ¬ 1 < (A.hgt : Int) - (B.hgt : Int) by omega)]
    by_cases q2 : A.hgt + 2 ≤ B.hgt
    · rw [if_pos (show (A.hgt : Int) - (B.hgt : Int) < -1 by omega)]
      obtain ⟨y, ky, vy, my, k', v', C, D, rfl⟩ := hgt_pos (t := B) (by omega)
      obtain ⟨rfl, g1, g2, aC, aD⟩ := aB
      have hC := hB.2.2.2.2.2.2.1
      have hD := hB.2.2.2.2.2.2.2
      have hc1 : avH R C.root = (C.hgt : Nat) := avH_at hC h0 aC.mk (by simp only [size] at sz; omega)
      have hc2 : avH R D.root = (D.hgt : Nat) := avH_at hD h0 aD.mk (by simp only [size] at sz; omega)
      rw [show (node y ky vy (max C.hgt D.hgt + 1) k' v' C D).root = y from rfl, (hB.root_at).2]
      simp only [hc1, hc2]
      by_cases q3 : D.hgt < C.hgt
      · rw [if_pos (by omega)]
        obtain ⟨z, kz, vz, mz, k2, v2, E, G, rfl⟩ := hgt_pos (t := C) (by omega)
        obtain ⟨rfl, g3, g4, aE, aG⟩ := aC
        obtain ⟨p1, p2, p3, p4, p5, p6, p7, p8, p9⟩ := ar3 q2 d2 q3 g1 g3 g4
        obtain ⟨r1, r2⟩ := bal_rl h0 h hn sz aA aE aG aD p1 p2 p3 p4 p5 p6
        rw [r1]
        have hh : (node z kz vz (max (max A.hgt E.hgt + 1) (max G.hgt D.hgt + 1) + 1) k2 v2 (node x kx vx (max A.hgt E.hgt + 1) k v A E) (node y ky vy (max G.hgt D.hgt + 1) k' v' G D)).hgt = D.hgt + 2 := p8
        have hm : max A.hgt (node y ky vy (max (node z kz vz (max E.hgt G.hgt + 1) k2 v2 E G).hgt D.hgt + 1) k' v' (node z kz vz (max E.hgt G.hgt + 1) k2 v2 E G) D).hgt = D.hgt + 2 := p7
        refine ⟨_, r2, fun _ f1 => absurd (Nat.le_trans q2 f1) (by omega), ?_, ?_⟩
        · rw [hh, hm]; exact Nat.le_refl _
        · rw [hh, hm]; exact Nat.le_succ _
      · rw [if_neg (by omega)]
        obtain ⟨p1, p2, p3, p4, p5, p6, p7⟩ := ar4 q2 d2 q3 g2
        have r2 := bal_rr h0 h hn sz aA aC aD p1 p2 p3 p4
        have hm : max A.hgt (node y ky vy (max C.hgt D.hgt + 1) k' v' C D).hgt = D.hgt + 1 := p5
        refine ⟨_, r2, fun _ f1 => absurd (Nat.le_trans q2 f1) (by omega), ?_, ?_⟩
        · rw [hm]; show _ ≤ max (max A.hgt C.hgt + 1) D.hgt + 1; rcases p6 with e | e <;> rw [e] <;> omega
        · rw [hm]; show max (max A.hgt C.hgt + 1) D.hgt + 1 ≤ _; rcases p6 with e | e <;> rw [e] <;> omega
    · rw [if_neg (show ¬ (A.hgt : Int) - (B.hgt : Int) < -1 by omega)]
      exact ⟨_, ⟨rfl, h, Sim.refl _, ⟨rfl, by omega, by omega, aA, aB⟩, fun u _ => rfl⟩, fun _ _ => rfl, Nat.le_succ _, Nat.le_refl _⟩
theorem nodes_zero {R : Nat → Option (List Nat)} (h0 : R 0 = none) {t : BT} (h : t.At R) : (0 : Nat) ∉ t.nodes := fun h9 => by
  obtain ⟨q, hq⟩ := BT.nodes_six t h 0 h9
  rw [h0] at hq; cases hq
theorem join_l {R R1 : Nat → Option (List Nat)} {xm km vm x kx vx y1 : Nat} {k v k' v' : ByteArray} {A B r T : BT} (h0 : R 0 = none) (hX : (node x kx vx (max A.hgt B.hgt + 1) k' v' A B).At R) (hr : r.At R) (hm0 : xm ≠ 0) (aK : A.Avl) (hn : (node xm km vm 0 k v (node x kx vx (max A.hgt B.hgt + 1) k' v' A B) r).hs.Nodup) (sz : (node xm km vm 0 k v (node x kx vx (max A.hgt B.hgt + 1) k' v' A B) r).size < 999990)
    (hT : BalOut R R1 y1 (node xm km vm 0 k v B r) T) (d1 : A.hgt ≤ T.hgt + 2) (d2 : T.hgt ≤ A.hgt + 2) :
    ∃ t : BT, BalOut R (avBal (withR R1 (nodeG R x) x A.root T.root) x).1 (avBal (withR R1 (nodeG R x) x A.root T.root) x).2 (node xm km vm 0 k v (node x kx vx (max A.hgt B.hgt + 1) k' v' A B) r) t ∧ (A.hgt ≤ T.hgt + 1 → T.hgt ≤ A.hgt + 1 → t.hgt = max A.hgt T.hgt + 1) ∧ max A.hgt T.hgt ≤ t.hgt ∧ t.hgt ≤ max A.hgt T.hgt + 1 := by
  obtain ⟨ex, gx⟩ := hX.root_at
  have hx0 := hX.1
  have hA := hX.2.2.2.2.2.2.1
  have hB := hX.2.2.2.2.2.2.2
  obtain ⟨nX, nr, ⟨a1, a2, a3⟩, ⟨b1, b2, b3⟩, ⟨c1, c2, c3⟩, c4⟩ := node_nodup.1 hn
  obtain ⟨mA, mB, ⟨d1', d2', d3'⟩, ⟨e1, e2, e3⟩, ⟨f1, f2, f3⟩, f4⟩ := node_nodup.1 nX
  have hsT := hT.sim.size
  have hkept : ∀ z, z ∈ A.hs ∨ z = x ∨ z = kx ∨ z = vx → z ∉ T.hs := fun z hz => by
    have hzl : z ∈ (node x kx vx (max A.hgt B.hgt + 1) k' v' A B).hs := by
      simp only [hs, List.mem_append, List.mem_cons]
      rcases hz with h | h | h | h <;> simp [h]
    have hz2 : z ≠ xm ∧ z ≠ km ∧ z ≠ vm ∧ z ∉ r.hs := ⟨fun e => a1 (e ▸ hzl), fun e => a2 (e ▸ hzl), fun e => a3 (e ▸ hzl), c4 z hzl⟩
    rw [hT.sim.hs]
    intro h; rcases List.mem_append.1 h with h | h
    · rcases hz with h' | rfl | rfl | rfl
      · exact f4 z h' h
      · exact e1 h
      · exact e2 h
      · exact e3 h
    · simp only [List.mem_cons] at h
      rcases h with h | h | h | h
      · exact hz2.1 h
      · exact hz2.2.1 h
      · exact hz2.2.2.1 h
      · exact hz2.2.2.2 h
  have hof : ∀ z, z ∉ T.hs → R1 z = R z := fun z hz => hT.frame z (fun h => hz (by rw [hT.sim.hs]; exact nodes_hs _ _ h))
  have xT := hkept x (by simp)
  have hR1 : R1 0 = none := by
    refine (hT.frame 0 fun h9 => ?_).trans h0
    simp only [nodes, List.mem_append, List.mem_cons] at h9
    rcases h9 with h | h | h
    · exact nodes_zero h0 hB h
    · exact hm0 h.symm
    · exact nodes_zero h0 hr h
  have hK1 : A.At R1 := hA.congr fun z hz => hof z (hkept z (.inl hz))
  have hk : (nodeG R x).key = kx := by rw [gx]
  have hv : (nodeG R x).val = vx := by rw [gx]
  have z1 : (node xm km vm 0 k v (node x kx vx (max A.hgt B.hgt + 1) k' v' A B) r).size = T.size + 1 + A.size := by rw [hsT]; simp only [size]; omega
  have hw := with_bt (R := R1) (nd := nodeG R x) (x := x) (k := k') (v := v') hR1 ((nodeE_congr (hof x xT)).1.trans ex) hx0 hK1 hT.at' aK.mk hT.avl.mk (by omega)
    (by rw [hk]; exact (hof kx (hkept kx (by simp))).trans hX.2.2.1) (by rw [hv]; exact (hof vx (hkept vx (by simp))).trans hX.2.2.2.1) hX.2.2.2.2.1 hX.2.2.2.2.2.1 d1' xT (by rw [hk]; exact f1) (by rw [hv]; exact f2)
  rw [hk, hv] at hw
  have hoth : ∀ u, u ≠ x → withR R1 (nodeG R x) x A.root T.root u = R1 u := fun u hu => withR_other hu
  generalize withR R1 (nodeG R x) x A.root T.root = R2 at *
  have sm : Sim (node xm km vm 0 k v (node x kx vx (max A.hgt B.hgt + 1) k' v' A B) r) (node x kx vx (max A.hgt T.hgt + 1) k' v' A T) :=
    ⟨by simp only [hs, hT.sim.hs, List.append_assoc, List.cons_append], by simp only [nodes, hT.sim.nodes, List.append_assoc, List.cons_append], by simp only [prs, hT.sim.prs, List.append_assoc, List.cons_append]⟩
  obtain ⟨t, o, s6⟩ := bal_bt ((hoth 0 (fun e => hx0 e.symm)).trans hR1) hw (sm.nodup hn) (by rw [sm.size]; omega) aK hT.avl d1 d2
  refine ⟨t, ⟨o.root, o.at', sm.trans o.sim, o.avl, fun z hz => ?_⟩, s6⟩
  rw [o.frame z (sm.mem hz)]
  simp only [nodes, List.mem_append, List.mem_cons, not_or] at hz
  rw [hoth z hz.1.2.1]
  exact hT.frame z (by simp only [nodes, List.mem_append, List.mem_cons, not_or]; exact ⟨hz.1.2.2, hz.2.1, hz.2.2⟩)
theorem join_r {R R1 : Nat → Option (List Nat)} {xm km vm x kx vx y1 : Nat} {k v k' v' : ByteArray} {A B r T : BT} (h0 : R 0 = none) (hX : (node x kx vx (max A.hgt B.hgt + 1) k' v' A B).At R) (hr : r.At R) (hm0 : xm ≠ 0) (aK : B.Avl) (hn : (node xm km vm 0 k v r (node x kx vx (max A.hgt B.hgt + 1) k' v' A B)).hs.Nodup) (sz : (node xm km vm 0 k v r (node x kx vx (max A.hgt B.hgt + 1) k' v' A B)).size < 999990)
    (hT : BalOut R R1 y1 (node xm km vm 0 k v r A) T) (d1 : T.hgt ≤ B.hgt + 2) (d2 : B.hgt ≤ T.hgt + 2) :
    ∃ t : BT, BalOut R (avBal (withR R1 (nodeG R x) x T.root B.root) x).1 (avBal (withR R1 (nodeG R x) x T.root B.root) x).2 (node xm km vm 0 k v r (node x kx vx (max A.hgt B.hgt + 1) k' v' A B)) t ∧ (T.hgt ≤ B.hgt + 1 → B.hgt ≤ T.hgt + 1 → t.hgt = max T.hgt B.hgt + 1) ∧ max T.hgt B.hgt ≤ t.hgt ∧ t.hgt ≤ max T.hgt B.hgt + 1 := by
  obtain ⟨ex, gx⟩ := hX.root_at
  have hx0 := hX.1
  have hA := hX.2.2.2.2.2.2.1
  have hB := hX.2.2.2.2.2.2.2
  obtain ⟨nr, nX, ⟨b1, b2, b3⟩, ⟨a1, a2, a3⟩, ⟨c1, c2, c3⟩, c4⟩ := node_nodup.1 hn
  obtain ⟨mA, mB, ⟨d1', d2', d3'⟩, ⟨e1, e2, e3⟩, ⟨f1, f2, f3⟩, f4⟩ := node_nodup.1 nX
  have hsT := hT.sim.size
  have hkept : ∀ z, z ∈ B.hs ∨ z = x ∨ z = kx ∨ z = vx → z ∉ T.hs := fun z hz => by
    have hzl : z ∈ (node x kx vx (max A.hgt B.hgt + 1) k' v' A B).hs := by
      simp only [hs, List.mem_append, List.mem_cons]
      rcases hz with h | h | h | h <;> simp [h]
    have hz2 : z ≠ xm ∧ z ≠ km ∧ z ≠ vm ∧ z ∉ r.hs := ⟨fun e => a1 (e ▸ hzl), fun e => a2 (e ▸ hzl), fun e => a3 (e ▸ hzl), fun e => c4 z e hzl⟩
    rw [hT.sim.hs]
    intro h; rcases List.mem_append.1 h with h | h
    · exact hz2.2.2.2 h
    · simp only [List.mem_cons] at h
      rcases h with h | h | h | h
      · exact hz2.1 h
      · exact hz2.2.1 h
      · exact hz2.2.2.1 h
      · rcases hz with h' | rfl | rfl | rfl
        · exact f4 z h h'
        · exact d1' h
        · exact d2' h
        · exact d3' h
  have hof : ∀ z, z ∉ T.hs → R1 z = R z := fun z hz => hT.frame z (fun h => hz (by rw [hT.sim.hs]; exact nodes_hs _ _ h))
  have xT := hkept x (by simp)
  have hR1 : R1 0 = none := by
    refine (hT.frame 0 fun h9 => ?_).trans h0
    simp only [nodes, List.mem_append, List.mem_cons] at h9
    rcases h9 with h | h | h
    · exact nodes_zero h0 hr h
    · exact hm0 h.symm
    · exact nodes_zero h0 hA h
  have hK1 : B.At R1 := hB.congr fun z hz => hof z (hkept z (.inl hz))
  have hk : (nodeG R x).key = kx := by rw [gx]
  have hv : (nodeG R x).val = vx := by rw [gx]
  have z1 : (node xm km vm 0 k v r (node x kx vx (max A.hgt B.hgt + 1) k' v' A B)).size = T.size + 1 + B.size := by rw [hsT]; simp only [size]; omega
  have hw := with_bt (R := R1) (nd := nodeG R x) (x := x) (k := k') (v := v') hR1 ((nodeE_congr (hof x xT)).1.trans ex) hx0 hT.at' hK1 hT.avl.mk aK.mk (by omega)
    (by rw [hk]; exact (hof kx (hkept kx (by simp))).trans hX.2.2.1) (by rw [hv]; exact (hof vx (hkept vx (by simp))).trans hX.2.2.2.1) hX.2.2.2.2.1 hX.2.2.2.2.2.1 xT e1 (by rw [hk]; exact f1) (by rw [hv]; exact f2)
  rw [hk, hv] at hw
  have hoth : ∀ u, u ≠ x → withR R1 (nodeG R x) x T.root B.root u = R1 u := fun u hu => withR_other hu
  generalize withR R1 (nodeG R x) x T.root B.root = R2 at *
  have sm : Sim (node xm km vm 0 k v r (node x kx vx (max A.hgt B.hgt + 1) k' v' A B)) (node x kx vx (max T.hgt B.hgt + 1) k' v' T B) :=
    ⟨by simp only [hs, hT.sim.hs, List.append_assoc, List.cons_append], by simp only [nodes, hT.sim.nodes, List.append_assoc, List.cons_append], by simp only [prs, hT.sim.prs, List.append_assoc, List.cons_append]⟩
  obtain ⟨t, o, s6⟩ := bal_bt ((hoth 0 (fun e => hx0 e.symm)).trans hR1) hw (sm.nodup hn) (by rw [sm.size]; omega) hT.avl aK d1 d2
  refine ⟨t, ⟨o.root, o.at', sm.trans o.sim, o.avl, fun z hz => ?_⟩, s6⟩
  rw [o.frame z (sm.mem hz)]
  simp only [nodes, List.mem_append, List.mem_cons, not_or] at hz
  rw [hoth z hz.2.2.2.1]
  exact hT.frame z (by simp only [nodes, List.mem_append, List.mem_cons, not_or]; exact ⟨hz.1, hz.2.1, hz.2.2.1⟩)
theorem join_here {R : Nat → Option (List Nat)} {nd : Nd} {xm : Nat} {k v : ByteArray} {l r : BT} (h0 : R 0 = none) (hl : l.At R) (hr : r.At R) (al : l.Avl) (ar : r.Avl) (em : nodeE R xm = 0) (x0 : xm ≠ 0)
    (hk : R nd.key = some (Tx.wordsL k.data.toList)) (hv : R nd.val = some (Tx.wordsL v.data.toList)) (ks : k.size ≤ 1000) (vs : v.size ≤ 1000) (hn : (node xm nd.key nd.val 0 k v l r).hs.Nodup) (sz : l.size + r.size < 999990) (g1 : l.hgt ≤ r.hgt + 1) (g2 : r.hgt ≤ l.hgt + 1) :
    ∃ t : BT, BalOut R (withR R nd xm l.root r.root) xm (node xm nd.key nd.val 0 k v l r) t ∧ max l.hgt r.hgt ≤ t.hgt ∧ t.hgt ≤ max l.hgt r.hgt + 1 := by
  obtain ⟨nA, nB, ⟨a1, a2, a3⟩, ⟨b1, b2, b3⟩, ⟨c1, c2, c3⟩, c4⟩ := node_nodup.1 hn
  have hw := with_bt (nd := nd) h0 em x0 hl hr al.mk ar.mk (by omega) hk hv ks vs a1 b1 c1 c2
  refine ⟨_, ⟨rfl, hw, sim_in (Sim.refl l) (Sim.refl r), ⟨rfl, g1, g2, al, ar⟩, fun z hz => ?_⟩, Nat.le_succ _, Nat.le_refl _⟩
  simp only [nodes, List.mem_append, List.mem_cons, not_or] at hz
  exact withR_other hz.2.1
theorem join_bt {R : Nat → Option (List Nat)} {nd : Nd} {xm : Nat} {k v : ByteArray} : ∀ (f : Nat) (l r : BT), R 0 = none → l.At R → r.At R → l.Avl → r.Avl → nodeE R xm = 0 → xm ≠ 0 →
    R nd.key = some (Tx.wordsL k.data.toList) → R nd.val = some (Tx.wordsL v.data.toList) → k.size ≤ 1000 → v.size ≤ 1000 → (node xm nd.key nd.val 0 k v l r).hs.Nodup → l.size + r.size < 999980 → l.hgt + r.hgt ≤ f →
    ∃ t : BT, BalOut R (avJoin nd xm f R l.root r.root).1 (avJoin nd xm f R l.root r.root).2 (node xm nd.key nd.val 0 k v l r) t ∧ max l.hgt r.hgt ≤ t.hgt ∧ t.hgt ≤ max l.hgt r.hgt + 1 := by
  intro f
  induction f with
  | zero =>
    intro l r h0 hl hr al ar em x0 hk hv ks vs hn sz hf
    exact join_here h0 hl hr al ar em x0 hk hv ks vs hn (by omega) (by omega) (by omega)
  | succ f ih =>
    intro l r h0 hl hr al ar em x0 hk hv ks vs hn sz hf
    have e1 : avH R l.root = (l.hgt : Nat) := avH_at hl h0 al.mk (by omega)
    have e2 : avH R r.root = (r.hgt : Nat) := avH_at hr h0 ar.mk (by omega)
    have l1 := hgt_le l
    have l2 := hgt_le r
    have e3 : wrap64 ((r.hgt : Nat) + 1 : Int) = (r.hgt : Int) + 1 := IntWalk.wrap64_in _ (by omega)
    have e4 : wrap64 ((l.hgt : Nat) + 1 : Int) = (l.hgt : Int) + 1 := IntWalk.wrap64_in _ (by omega)
    rw [avJoin, e1, e2, e3, e4]
    clear e1 e2 e3 e4 l1 l2
    by_cases q1 : r.hgt + 1 < l.hgt
    · rw [if_pos (by omega)]
      obtain ⟨x, kx, vx, mx, k', v', A, B, rfl⟩ := hgt_pos (t := l) (by omega)
      obtain ⟨rfl, g1, g2, aA, aB⟩ := al
      obtain ⟨_, gx⟩ := hl.root_at
      have hgl : (nodeG R x).left = A.root := by rw [gx]
      have hgr : (nodeG R x).right = B.root := by rw [gx]
      rw [show (node x kx vx (max A.hgt B.hgt + 1) k' v' A B).root = x from rfl, hgl, hgr]
      obtain ⟨nX, nr, ⟨a1, a2, a3⟩, ⟨b1, b2, b3⟩, cc, c4⟩ := node_nodup.1 hn
      obtain ⟨mA, mB, _, _, _, f4⟩ := node_nodup.1 nX
      have hin : ∀ z ∈ B.hs, z ∈ (node x kx vx (max A.hgt B.hgt + 1) k' v' A B).hs := fun z hz => by simp [hs, hz]
      have nn : (node xm nd.key nd.val 0 k v B r).hs.Nodup := node_nodup.2 ⟨mB, nr, ⟨fun e => a1 (hin _ e), fun e => a2 (hin _ e), fun e => a3 (hin _ e)⟩, ⟨b1, b2, b3⟩, cc, fun z hz => c4 z (hin z hz)⟩
      have hle : B.hgt + r.hgt ≤ f := by
        have h9 : max A.hgt B.hgt + 1 + r.hgt ≤ f + 1 := hf
        have := Nat.le_max_right A.hgt B.hgt
        omega
      obtain ⟨T, o, t6, t7⟩ := ih B r h0 hl.2.2.2.2.2.2.2 hr aB ar em x0 hk hv ks vs nn (by simp only [size] at sz; omega) hle
      obtain ⟨j1, j2, j3⟩ := jr1 q1 g1 g2 t6 t7
      rw [o.root]
      obtain ⟨t, p, s6, s7, s8⟩ := join_l h0 hl hr x0 aA hn (by simp only [size] at sz ⊢; omega) o j1 j2
      exact ⟨t, p, j3 _ s6 s7 s8⟩
    · rw [if_neg (by omega)]
      by_cases q2 : l.hgt + 1 < r.hgt
      · rw [if_pos (by omega)]
        obtain ⟨x, kx, vx, mx, k', v', A, B, rfl⟩ := hgt_pos (t := r) (by omega)
        obtain ⟨rfl, g1, g2, aA, aB⟩ := ar
        obtain ⟨_, gx⟩ := hr.root_at
        have hgl : (nodeG R x).left = A.root := by rw [gx]
        have hgr : (nodeG R x).right = B.root := by rw [gx]
        rw [show (node x kx vx (max A.hgt B.hgt + 1) k' v' A B).root = x from rfl, hgl, hgr]
        obtain ⟨nr, nX, ⟨b1, b2, b3⟩, ⟨a1, a2, a3⟩, cc, c4⟩ := node_nodup.1 hn
        obtain ⟨mA, mB, _, _, _, f4⟩ := node_nodup.1 nX
        have hin : ∀ z ∈ A.hs, z ∈ (node x kx vx (max A.hgt B.hgt + 1) k' v' A B).hs := fun z hz => by simp [hs, hz]
        have nn : (node xm nd.key nd.val 0 k v l A).hs.Nodup := node_nodup.2 ⟨nr, mA, ⟨b1, b2, b3⟩, ⟨fun e => a1 (hin _ e), fun e => a2 (hin _ e), fun e => a3 (hin _ e)⟩, cc, fun z hz hz' => c4 z hz (hin z hz')⟩
        have hle : l.hgt + A.hgt ≤ f := by
          have h9 : l.hgt + (max A.hgt B.hgt + 1) ≤ f + 1 := hf
          have := Nat.le_max_left A.hgt B.hgt
          omega
        obtain ⟨T, o, t6, t7⟩ := ih l A h0 hl hr.2.2.2.2.2.2.1 al aA em x0 hk hv ks vs nn (by simp only [size] at sz; omega) hle
        obtain ⟨j1, j2, j3⟩ := jr2 q2 g1 g2 t6 t7
        rw [o.root]
        obtain ⟨t, p, s6, s7, s8⟩ := join_r h0 hr hl x0 aB hn (by simp only [size] at sz ⊢; omega) o j1 j2
        exact ⟨t, p, j3 _ s6 s7 s8⟩
      · rw [if_neg (by omega)]
        exact join_here h0 hl hr al ar em x0 hk hv ks vs hn (by omega) (by omega) (by omega)
end
end BT
end Go.Proofs.YtjpmlneihbckpaaGreatDoor
/- Red-black joins as they work on a store's records: plain model. -/
set_option linter.unusedVariables false
set_option linter.unusedSimpArgs false
namespace Go.Proofs.YtjpmlneihbckpaaGreatDoor
open Go.RowKit Go.Shelf
/-- a tree's black height, and whether its root is red, as its root says -/
def rbB (R : Nat → Option (List Nat)) (x : Nat) : Nat := (nodeG R x).mark / 2
def rbRed (R : Nat → Option (List Nat)) (x : Nat) : Bool := (nodeG R x).mark % 2 == 1
def rbMark (b : Nat) (red : Bool) : Nat := if red then 2 * b + 1 else (2 * b + 2) % 18446744073709551616
def rbN (R : Nat → Option (List Nat)) (x l r : Nat) (red : Bool) : Nd :=
  ⟨(nodeG R x).key, (nodeG R x).val, l, r, rbMark (rbB R l) red, toU (wrap64 (wrap64 (tsizeR R l + tsizeR R r) + 1))⟩
def rbPut (R : Nat → Option (List Nat)) (x l r : Nat) (red : Bool) : Nat → Option (List Nat) := putN R x (rbN R x l r red)
def rbSides (R : Nat → Option (List Nat)) (tn : Bool) (x : Nat) : Nat × Nat := if tn then ((nodeG R x).right, (nodeG R x).left) else ((nodeG R x).left, (nodeG R x).right)
def rbPutT (R : Nat → Option (List Nat)) (tn : Bool) (x other own : Nat) (red : Bool) : Nat → Option (List Nat) := if tn then rbPut R x own other red else rbPut R x other own red
/-- join, as deep as may be -/
def rbJoin (tn : Bool) (m low : Nat) : Nat → (Nat → Option (List Nat)) → Nat → (Nat → Option (List Nat)) × Nat
  | 0, R, t => (rbPutT R tn m t low true, m)
  | f + 1, R, t =>
    if rbRed R t = false ∧ rbB R t = rbB R low then (rbPutT R tn m t low true, m)
    else
      let p := rbJoin tn m low f R (rbSides R tn t).2
      let R1 := rbPutT p.1 tn t (rbSides R tn t).1 p.2 (rbRed R t)
      if rbRed R t = true ∨ rbRed R1 p.2 = false then (R1, t)
      else
        let ab := rbSides R1 tn p.2
        if rbRed R1 ab.2 = false then (R1, t)
        else
          let cd := rbSides R1 tn ab.2
          let R2 := rbPutT R1 tn ab.2 cd.1 cd.2 false
          let R3 := rbPutT R2 tn t (rbSides R tn t).1 ab.1 false
          (rbPutT R3 tn p.2 t ab.2 true, p.2)
def rbTop (tn : Bool) (R : Nat → Option (List Nat)) (t m low : Nat) : (Nat → Option (List Nat)) × Nat :=
  let p := rbJoin tn m low 200 R t
  if rbRed p.1 p.2 = true ∧ rbRed p.1 (rbSides p.1 tn p.2).2 = true then (rbPutT p.1 tn p.2 (rbSides p.1 tn p.2).1 (rbSides p.1 tn p.2).2 false, p.2)
  else p
def rbAll (R : Nat → Option (List Nat)) (l m r : Nat) : (Nat → Option (List Nat)) × Nat :=
  if rbB R r < rbB R l then rbTop false R l m r
  else if rbB R l < rbB R r then rbTop true R r m l
  else (rbPut R m l r (!rbRed R l && !rbRed R r), m)
theorem rbPut_keeps (R : Nat → Option (List Nat)) (x l r : Nat) (red : Bool) : KeepsN R (rbPut R x l r red) := KeepsN.put fun _ => ⟨rfl, rfl⟩
theorem rbPutT_keeps (R : Nat → Option (List Nat)) (tn : Bool) (x l r : Nat) (red : Bool) : KeepsN R (rbPutT R tn x l r red) := by
  unfold rbPutT
  split <;> exact rbPut_keeps _ _ _ _ _
theorem rbJoin_keeps (tn : Bool) (m low : Nat) : ∀ (f : Nat) (R : Nat → Option (List Nat)) (t : Nat), KeepsN R (rbJoin tn m low f R t).1
  | 0, R, t => rbPutT_keeps _ _ _ _ _ _
  | f + 1, R, t => by
    rw [rbJoin]
    have h1 := (rbJoin_keeps tn m low f R (rbSides R tn t).2).trans (rbPutT_keeps _ tn t (rbSides R tn t).1 (rbJoin tn m low f R (rbSides R tn t).2).2 (rbRed R t))
    split
    · exact rbPutT_keeps _ _ _ _ _ _
    · simp only
      split
      · exact h1
      · split
        · exact h1
        · exact ((h1.trans (rbPutT_keeps _ _ _ _ _ _)).trans (rbPutT_keeps _ _ _ _ _ _)).trans (rbPutT_keeps _ _ _ _ _ _)
theorem rbTop_keeps (tn : Bool) (R : Nat → Option (List Nat)) (t m low : Nat) : KeepsN R (rbTop tn R t m low).1 := by
  unfold rbTop
  simp only
  split
  · exact (rbJoin_keeps tn m low 200 R t).trans (rbPutT_keeps _ _ _ _ _ _)
  · exact rbJoin_keeps tn m low 200 R t
theorem rbAll_keeps (R : Nat → Option (List Nat)) (l m r : Nat) : KeepsN R (rbAll R l m r).1 := by
  unfold rbAll
  split
  · exact rbTop_keeps _ _ _ _ _
  · split
    · exact rbTop_keeps _ _ _ _ _
    · exact rbPut_keeps _ _ _ _ _
end Go.Proofs.YtjpmlneihbckpaaGreatDoor
/- Boxes of a call's own: blocks of so many cells. -/
set_option linter.unusedVariables false
set_option linter.unusedSimpArgs false
namespace Go.Proofs.YtjpmlneihbckpaaGreatDoor
open Go.RowKit Go.Shelf
/-- a block of the call's own, whose cells are these -/
def Box (W : World) (b : Nat) (t : TypeId) (vs : List Value) : Prop := W.rowIs b t vs.length (fun i => vs[i]?.getD undef)
theorem Box.new (W : World) (t : TypeId) (vs : List Value) : Box (W.alloc (Obj.cells vs.toArray t)) W.heap.size t vs := by
  have := World.rowIs_alloc W vs.toArray t (fun i => vs[i]?.getD undef) (fun i hi => by
    simp only [List.size_toArray] at hi
    rw [List.getElem?_toArray, List.getElem?_eq_getElem hi]
    rfl)
  rw [List.size_toArray] at this
  exact this
section
variable {W W' : World} {b : Nat} {t : TypeId} {vs : List Value}
theorem Box.lt (h : Box W b t vs) : b < W.heap.size := by
  obtain ⟨c, h1, _⟩ := h
  exact (Array.getElem?_eq_some_iff.1 h1).1
theorem Box.block (h : Box W b t vs) (hk : W'.heap[b]? = W.heap[b]?) : Box W' b t vs := rowIs_keep h hk
theorem Box.below (h : Box W b t vs) (hb : Below W.heap.size W W') : Box W' b t vs := h.block (hb.block b h.lt)
theorem Box.turn {F F' : Nat → Prop} (h : Box W b t vs) (ht : Turn W F W' F') (hF : ¬ F b) : Box W' b t vs := h.block (ht.keep b h.lt hF)
theorem Box.at' (h : Box W b t vs) {i : Nat} {v : Value} (hi : vs[i]? = some v) : W.cell? ⟨b, i, none⟩ = some v := by
  have hl : i < vs.length := (List.getElem?_eq_some_iff.1 hi).1
  have := h.cell hl
  simp only [hi, Option.getD_some] at this
  exact this
theorem Box.free (h : Box W b t vs) (i : Nat) : W.frozen? ⟨b, i, none⟩ = false := h.frozen i
theorem Box.set (h : Box W b t vs) (i : Nat) (v : Value) : Box (W.setCell ⟨b, i, none⟩ v) b t (vs.set i v) := by
  have h1 := World.rowIs.set h i v
  unfold Box
  rw [List.length_set]
  refine h1.congr fun j hj => ?_
  by_cases e : j = i
  · subst e
    simp only [if_true]
    rw [List.getElem?_set_self hj]
    rfl
  · simp only [if_neg e]
    rw [List.getElem?_set_ne (fun e' => e e'.symm)]
theorem Box.other (h : Box W b t vs) {p : Addr} (hp : b ≠ p.block) (v : Value) : Box (W.setCell p v) b t vs := World.rowIs.setOther h hp v
end
theorem below_seven {w W : World} {m b : Nat} (h : Below m w W) (hb : m ≤ b) (v0 v1 v2 v3 v4 v5 v6 : Value) : Below m w (((((((W.setCell ⟨b, 0, none⟩ v0).setCell ⟨b, 1, none⟩ v1).setCell ⟨b, 2, none⟩ v2).setCell ⟨b, 3, none⟩ v3).setCell ⟨b, 4, none⟩ v4).setCell ⟨b, 5, none⟩ v5).setCell ⟨b, 6, none⟩ v6) := (((((((h.setCell (p := ⟨b, 0, none⟩) hb v0).setCell (p := ⟨b, 1, none⟩) hb v1).setCell (p := ⟨b, 2, none⟩) hb v2).setCell (p := ⟨b, 3, none⟩) hb v3).setCell (p := ⟨b, 4, none⟩) hb v4).setCell (p := ⟨b, 5, none⟩) hb v5).setCell (p := ⟨b, 6, none⟩) hb v6)
theorem below_six {w W : World} {m b : Nat} (h : Below m w W) (hb : m ≤ b) (v0 v1 v2 v3 v4 v5 : Value) : Below m w ((((((W.setCell ⟨b, 0, none⟩ v0).setCell ⟨b, 1, none⟩ v1).setCell ⟨b, 2, none⟩ v2).setCell ⟨b, 3, none⟩ v3).setCell ⟨b, 4, none⟩ v4).setCell ⟨b, 5, none⟩ v5) := ((((((h.setCell (p := ⟨b, 0, none⟩) hb v0).setCell (p := ⟨b, 1, none⟩) hb v1).setCell (p := ⟨b, 2, none⟩) hb v2).setCell (p := ⟨b, 3, none⟩) hb v3).setCell (p := ⟨b, 4, none⟩) hb v4).setCell (p := ⟨b, 5, none⟩) hb v5)
theorem Box.alloc {W : World} {b : Nat} {t : TypeId} {vs : List Value} (h : Box W b t vs) (o : Obj) : Box (W.alloc o) b t vs := h.below ((Below.refl _ W).alloc (Nat.le_refl _) o)
theorem Box.seven {W : World} {b : Nat} {t : TypeId} {u0 u1 u2 u3 u4 u5 u6 : Value} (h : Box W b t [u0, u1, u2, u3, u4, u5, u6]) (v0 v1 v2 v3 v4 v5 v6 : Value) : Box (((((((W.setCell ⟨b, 0, none⟩ v0).setCell ⟨b, 1, none⟩ v1).setCell ⟨b, 2, none⟩ v2).setCell ⟨b, 3, none⟩ v3).setCell ⟨b, 4, none⟩ v4).setCell ⟨b, 5, none⟩ v5).setCell ⟨b, 6, none⟩ v6) b t [v0, v1, v2, v3, v4, v5, v6] := (((((((h.set 0 v0).set 1 v1).set 2 v2).set 3 v3).set 4 v4).set 5 v5).set 6 v6)
theorem Box.six {W : World} {b : Nat} {t : TypeId} {u0 u1 u2 u3 u4 u5 : Value} (h : Box W b t [u0, u1, u2, u3, u4, u5]) (v0 v1 v2 v3 v4 v5 : Value) : Box ((((((W.setCell ⟨b, 0, none⟩ v0).setCell ⟨b, 1, none⟩ v1).setCell ⟨b, 2, none⟩ v2).setCell ⟨b, 3, none⟩ v3).setCell ⟨b, 4, none⟩ v4).setCell ⟨b, 5, none⟩ v5) b t [v0, v1, v2, v3, v4, v5] := ((((((h.set 0 v0).set 1 v1).set 2 v2).set 3 v3).set 4 v4).set 5 v5)
/-- a node's cells -/
def ndL (nd : Nd) : List Value := [.int .u64 (nd.key : Nat), .int .u64 (nd.val : Nat), .int .u64 (nd.left : Nat), .int .u64 (nd.right : Nat), .int .u64 (nd.mark : Nat), .int .u64 (nd.size : Nat)]
theorem nput_any {w : World} {s : Nat} {F : Nat → Prop} {R : Nat → Option (List Nat)} {H : List Nat} {P q most last G : Nat} (h : StoreIs w s F R H P q most last G) (x : Nat) (hx : x < 18446744073709551616) (nd : Nd) (hok : nd.Ok) :
    Calls Tryz.prog 32 #[.pointer (some ⟨s, 0, none⟩), .int .u64 (x : Nat), nd.v] w fun e w' => e = .returned (.int .i64 (nodeE R x : Nat)) ∧ StoreIs w' s F (if nodeE R x = 0 then updR R x (some nd.ws) else R) H P q most last G ∧ Turn w F w' F := by
  by_cases h0 : nodeE R x = 0
  · obtain ⟨o, ho⟩ := nodeE_zero.1 h0
    have hR := nodeR_some ho
    have := nput_at h hR rfl nd hok
    rw [if_pos h0, h0]
    exact this
  · obtain ⟨n, hrd, _⟩ := h.rd
    rw [if_neg h0]
    obtain ⟨z, hz⟩ : ∃ z, nodeE R x = z := ⟨_, rfl⟩
    rw [hz] at h0
    have hA := fun w' (hb : Below w.heap.size w w') => asked_at (hrd.below hb) x hx
    rw [hz] at hA ⊢
    have hAH := Lib.hid hA
    have hz9 : z < 10 := by rw [← hz]; unfold nodeE; split <;> (try split) <;> omega
    have d : ((z : Int) != 0) = true := by simp; omega
    have hH := Lib.hid h
    clear h hrd hA hz
    unfold Nd.v
    go_enter Tryz.func32, Tryz.ntmps32
    go_wp2_with fail
    have hb0 : Below w.heap.size w (w.alloc (Obj.cells #[Value.int IntKind.u64 (nd.key : Nat), Value.int IntKind.u64 (nd.val : Nat), Value.int IntKind.u64 (nd.left : Nat), Value.int IntKind.u64 (nd.right : Nat), Value.int IntKind.u64 (nd.mark : Nat), Value.int IntKind.u64 (nd.size : Nat)] 53)) := (Below.refl _ w).alloc (Nat.le_refl _) _
    have hb0H := Lib.hid hb0
    refine (hAH.out _ hb0).mono ?_
    rintro e w1 ⟨rfl, rfl⟩
    clear hb0
    go_wp2
    go_ret
    exact ⟨rfl, hH.out.below hb0H.out, Turn.below hb0H.out⟩
end Go.Proofs.YtjpmlneihbckpaaGreatDoor
/- A region that draws its order: its reads may all be taken first, in a row of one's own, then its acts in their forced row. -/
set_option linter.unusedVariables false
set_option linter.unusedSimpArgs false
namespace Go.Proofs.YtjpmlneihbckpaaGreatDoor
open Go Go.RowKit
section
variable {P : Program} {ops : Array Oper} {md : Region.Mode} {Q : Exit → Act → World → Prop} {C : World → Prop}
/-- it yields v in every world of the class, and turns none -/
def YieldsW (P : Program) (ops : Array Oper) (C : World → Prop) (o : Oper) (v : Value) (a : Act) : Prop :=
  Region.wanted o (yielded ops a.tmps) = true ∧ ∀ w, C w → (execOp a.eval o).run P w = .ok (.value v) w
theorem YieldsW.of_same {o : Oper} {v : Value} {a a' : Act} (hy : YieldsW P ops C o v a) (he : execOp a'.eval o = execOp a.eval o)
    (hw : Region.wanted o (yielded ops a'.tmps) = Region.wanted o (yielded ops a.tmps)) : YieldsW P ops C o v a' :=
  ⟨hw.trans hy.1, fun w hc => by rw [he]; exact hy.2 w hc⟩
theorem YieldsW.op {i : Nat} {o : Oper} {v : Value} {a : Act} (hi : ops[i]? = some o) (hy : YieldsW P ops C o v a) {K : Act → World → Prop} {w : World} (hc : C w) (h : K (a.put o.dst v) w) : wpOp P ops Q i K a w := by
  unfold wpOp
  simp only [hi]
  rw [if_pos hy.1]
  refine .inl ?_
  unfold Oper.wp
  rw [hy.2 w hc]
  exact h
theorem wpOp_putW {j : Nat} {oi oj : Oper} {v : Value} (hj : ops[j]? = some oj) (hap : oi.apart ops oj = true)
    (hsi : ∀ cs b, oi.op ≠ .select cs b) (hsj : ∀ cs b, oj.op ≠ .select cs b)
    (hQ : ∀ c a w, Q (.panic c) (a.put oi.dst v) w → Q (.panic c) a w) {K : Act → World → Prop} {a : Act} {w : World}
    (hy : YieldsW P ops C oi v a) (h : wpOp P ops Q j K (a.put oi.dst v) w) :
    wpOp P ops Q j (fun a' w' => YieldsW P ops C oi v a' ∧ K (a'.put oi.dst v) w') a w := by
  obtain ⟨h1, h2, h3⟩ := Oper.apart_spec hap
  have keep : ∀ (a : Act), YieldsW P ops C oi v a → ∀ u, YieldsW P ops C oi v (a.put oj.dst u) := fun a hy u =>
    hy.of_same (execOp_put oi hsi a oj.dst u h3) (wanted_put oi a oj.dst u h3)
  have keepD : ∀ d, YieldsW P ops C oi v { a with defers := d :: a.defers } := fun d => hy.of_same rfl rfl
  unfold wpOp at *
  simp only [hj] at *
  rw [wanted_put oj a oi.dst v h1] at h
  split
  · rename_i hw
    simp only [hw, if_true] at h
    rcases h with h | ⟨hasks, hlets⟩
    case inr => exact .inr ⟨by unfold Oper.asks at *; rw [execOp_put oj hsj a oi.dst v h1] at hasks; exact hasks, hlets⟩
    refine .inl ?_
    unfold Oper.wp at *
    rw [execOp_put oj hsj a oi.dst v h1] at h
    generalize (execOp a.eval oj).run P w = r at *
    cases r with
    | ok n w' =>
      cases n <;> simp only [Oper.upon] at h ⊢
      case value u => exact ⟨keep a hy u, by rw [← Act.put_comm a v u h2]; exact h⟩
      case skip => exact ⟨keep a hy _, by rw [← Act.put_comm a v undef h2]; exact h⟩
      case defer d =>
        refine ⟨keep _ (keepD d) _, ?_⟩
        rw [← Act.put_comm _ v undef h2, ← Act.put_defers]
        exact h
      case enter f args =>
        refine Calls.mono h fun e w'' he => ?_
        cases e with
        | returned u => exact ⟨keep a hy u, by rw [← Act.put_comm a v u h2]; exact he⟩
        | panicked c => exact hQ _ _ _ he
        | outgrown => exact he
      case row row args => exact Rows.mono h fun u w'' he => ⟨keep a hy u, by rw [← Act.put_comm a v u h2]; exact he⟩
    | halt x w' =>
      cases x <;> simp only [Oper.upon] at h ⊢
      case panic u => exact hQ _ _ _ h
  · rename_i hw
    simp only [hw] at h
    exact ⟨keep a hy _, by rw [← Act.put_comm a v undef h2]; exact h⟩
/-- in any order; behind each operation the world is of the class -/
def wpAnyW (P : Program) (md : Region.Mode) (ops : Array Oper) (Q : Exit → Act → World → Prop) (C : World → Prop) : Nat → Array Bool → Act → World → Prop
  | 0, listed, a, w => Region.ready md ops listed = [] ∧ Q .normal a w
  | f + 1, listed, a, w =>
    (Region.ready md ops listed = [] → Q .normal a w) ∧
    ∀ i ∈ Region.ready md ops listed, wpOp P ops Q i (fun a' w' => C w' ∧ wpAnyW P md ops Q C f (listed.setIfInBounds i true) a' w') a w
theorem wpAnyW.any : ∀ (f : Nat) (listed : Array Bool) (a : Act) (w : World), wpAnyW P md ops Q C f listed a w → wpAny P md ops Q f listed a w
  | 0, _, _, _, h => h
  | f + 1, listed, a, w, h => ⟨h.1, fun i hi => wpOp_mono (fun a' w' h' => wpAnyW.any f _ a' w' h'.2) (h.2 i hi)⟩
theorem wpAnyW_first {i : Nat} {oi : Oper} {v : Value} (hi : ops[i]? = some oi) (hsel : ∀ (j : Nat) (o : Oper) cs b, ops[j]? = some o → o.op ≠ .select cs b)
    (hQ : ∀ c a w, Q (.panic c) (a.put oi.dst v) w → Q (.panic c) a w) :
    ∀ (f : Nat) (listed : Array Bool) (a : Act) (w : World),
      (∀ j oj, ops[j]? = some oj → j ≠ i → listed.getD j true = false → (∀ e ∈ oj.after, Region.binds md e = true → e.on ≠ i) → oi.apart ops oj = true) →
      i ∈ Region.ready md ops listed → YieldsW P ops C oi v a → C w →
      wpAnyW P md ops Q C f (listed.setIfInBounds i true) (a.put oi.dst v) w → wpAnyW P md ops Q C (f + 1) listed a w := by
  intro f
  induction f with
  | zero =>
    intro listed a w _ hr hy hC H
    refine ⟨fun h => (by rw [h] at hr; cases hr), fun j hj => ?_⟩
    by_cases hji : j = i
    · subst hji; exact hy.op hi hC ⟨hC, H⟩
    · have := ready_mono hj hji
      rw [H.1] at this
      cases this
  | succ f ih =>
    intro listed a w hfree hr hy hC H
    refine ⟨fun h => (by rw [h] at hr; cases hr), fun j hj => ?_⟩
    by_cases hji : j = i
    · subst hji; exact hy.op hi hC ⟨hC, H⟩
    · have h1 := H.2 j (ready_mono hj hji)
      obtain ⟨hjun, oj, hoj, hall⟩ := mem_ready.1 hj
      have hun := (mem_ready.1 hr).1
      have hnot : ∀ e ∈ oj.after, Region.binds md e = true → e.on ≠ i := fun e he hb heq => by
        have h1 := hall e he hb
        rw [heq, getD_both hun] at h1
        cases h1
      have h2 := wpOp_putW hoj (hfree j oj hoj hji hjun hnot) (fun cs b => hsel i oi cs b hi) (fun cs b => hsel j oj cs b hoj) hQ hy h1
      have hfree' : ∀ k ok, ops[k]? = some ok → k ≠ i → (listed.setIfInBounds j true).getD k true = false →
          (∀ e ∈ ok.after, Region.binds md e = true → e.on ≠ i) → oi.apart ops ok = true := fun k ok hk hki hun' hno => by
        refine hfree k ok hk hki ?_ hno
        by_cases hjk : j = k
        · subst hjk; exact hjun
        · rw [getD_set_ne true hjk] at hun'; exact hun'
      refine wpOp_mono (fun a' w' h3 => ?_) h2
      refine ⟨h3.2.1, ih (listed.setIfInBounds j true) a' w' hfree' (ready_mono hr (Ne.symm hji)) h3.1 h3.2.1 ?_⟩
      rw [Array.setIfInBounds_comm _ _ hji]
      exact h3.2.2
/-- acts, each one forced -/
def rowB (md : Region.Mode) (ops : Array Oper) : List Nat → Array Bool → Bool
  | [], listed => (Region.ready md ops listed).isEmpty
  | k :: ks, listed => decide (Region.ready md ops listed = [k]) && rowB md ops ks (listed.setIfInBounds k true)
/-- reads first -/
def headB (md : Region.Mode) (ops : Array Oper) (ks : List Nat) : List Nat → Array Bool → Bool
  | [], listed => rowB md ops ks listed
  | i :: is, listed => (Region.ready md ops listed).contains i && Region.free md ops listed i && headB md ops ks is (listed.setIfInBounds i true)
/-- the act goes on where the row ends -/
def Qr (K : Act → World → Prop) (Q : Exit → Act → World → Prop) : Exit → Act → World → Prop
  | .normal, a, w => K a w
  | e, a, w => Q e a w
/-- reads, one by one -/
def wpReads (P : Program) (ops : Array Oper) (C : World → Prop) (L : Act → Prop) : List Nat → Act → Prop
  | [], a => L a
  | i :: is, a => ∃ o v, ops[i]? = some o ∧ YieldsW P ops C o v a ∧ wpReads P ops C L is (a.put o.dst v)
/-- acts, one by one -/
def wpActs (P : Program) (ops : Array Oper) (Q : Exit → Act → World → Prop) (C : World → Prop) : List Nat → Act → World → Prop
  | [], a, w => Q .normal a w
  | k :: ks, a, w => ∃ o, ops[k]? = some o ∧ wpList P ops (Qr (fun a' w' => C w' ∧ wpActs P ops Q C ks a' w') Q) [o] a w
theorem wpReads_nil {L : Act → Prop} {a : Act} (h : L a) : wpReads P ops C L [] a := h
theorem wpReads_step {L : Act → Prop} {i : Nat} {is : List Nat} {a : Act} (o : Oper) (v : Value) (hi : ops[i]? = some o) (h1 : Region.wanted o (yielded ops a.tmps) = true) (h2 : ∀ w, C w → (execOp a.eval o).run P w = .ok (.value v) w) (h : wpReads P ops C L is (a.put o.dst v)) : wpReads P ops C L (i :: is) a :=
  ⟨o, v, hi, ⟨h1, h2⟩, h⟩
theorem wpActs_nil {a : Act} {w : World} (h : Q .normal a w) : wpActs P ops Q C [] a w := h
theorem wpActs_step {k : Nat} {ks : List Nat} {a : Act} {w : World} (o : Oper) (hk : ops[k]? = some o) (h : ∀ K : Act → World → Prop, (∀ a' w', C w' → wpActs P ops Q C ks a' w' → K a' w') → wpList P ops (Qr K Q) [o] a w) : wpActs P ops Q C (k :: ks) a w :=
  ⟨o, hk, h _ (fun _ _ h1 h2 => ⟨h1, h2⟩)⟩
theorem wp_post {o : Oper} {a : Act} {w : World} {K : Act → World → Prop} {Q' : Exit → Act → World → Prop} (hQ : ∀ c a w, Q' (.panic c) a w → Q (.panic c) a w) (hO : LetsOut Q' → LetsOut Q) (hh : o.wp P a w K Q') : o.wp P a w K Q := by
  unfold Oper.wp at *
  generalize (execOp a.eval o).run P w = r at *
  cases r with
  | ok x w' =>
    cases x <;> simp only [Oper.upon] at hh ⊢ <;>
      first
        | exact hh
        | exact Calls.mono hh (fun e w'' he => by cases e <;> first | exact he | exact hQ _ _ _ he | exact hO he)
  | halt x w' => cases x <;> simp only [Oper.upon] at hh ⊢ <;> first | exact hQ _ _ _ hh | exact hh
theorem wpOp_list {i : Nat} {o : Oper} {K : Act → World → Prop} {a : Act} {w : World} (hi : ops[i]? = some o) (h : wpList P ops (Qr K Q) [o] a w) : wpOp P ops Q i K a w := by
  unfold wpOp
  simp only [hi]
  unfold wpList at h
  split
  · rename_i hw
    rw [if_pos hw] at h
    rcases h with h | ⟨h1, h2⟩
    · exact .inl (wp_post (fun _ _ _ h => h) (fun h => h) h)
    · exact .inr ⟨h1, h2⟩
  · rename_i hw
    rw [if_neg hw] at h
    exact h
theorem wpAnyW_of_acts : ∀ (ks : List Nat) (listed : Array Bool) (a : Act) (w : World), rowB md ops ks listed = true → wpActs P ops Q C ks a w → wpAnyW P md ops Q C ks.length listed a w
  | [], listed, a, w, hB, h => ⟨by simpa [rowB] using hB, h⟩
  | k :: ks, listed, a, w, hB, h => by
    obtain ⟨o, h0, h⟩ := h
    simp only [rowB, Bool.and_eq_true, decide_eq_true_eq] at hB
    refine ⟨fun h1 => (by rw [hB.1] at h1; cases h1), fun i hi => ?_⟩
    rw [hB.1] at hi
    obtain rfl : i = k := by simpa using hi
    exact wpOp_mono (fun a' w' h' => ⟨h'.1, wpAnyW_of_acts ks _ a' w' hB.2 h'.2⟩) (wpOp_list h0 h)
theorem wpAnyW_of_reads {ks : List Nat} {w : World} (hsel : Region.noSelect ops = true) (hC : C w) (hQ : ∀ c a d v w, Q (.panic c) (Act.put a d v) w → Q (.panic c) a w) :
    ∀ (is : List Nat) (listed : Array Bool) (a : Act), headB md ops ks is listed = true → wpReads P ops C (fun a' => wpActs P ops Q C ks a' w) is a → wpAnyW P md ops Q C (is.length + ks.length) listed a w
  | [], listed, a, hB, h => by
    rw [List.length_nil, Nat.zero_add]
    exact wpAnyW_of_acts ks listed a w hB h
  | i :: is, listed, a, hB, h => by
    obtain ⟨o, v, h0, hy, hK⟩ := h
    simp only [headB, Bool.and_eq_true] at hB
    obtain ⟨⟨hr, hf⟩, hB'⟩ := hB
    rw [List.length_cons, show is.length + 1 + ks.length = (is.length + ks.length) + 1 by omega]
    exact wpAnyW_first h0 (Region.noSelect_spec hsel) (fun c a w h => hQ c a _ _ w h) (is.length + ks.length) listed a w (Region.free_spec h0 hf) (by simpa using hr) hy hC
      (wpAnyW_of_reads hsel hC hQ is _ _ hB' hK)
/-- A region that draws: reads, in any row, then acts in their forced row; all worlds on the way are of the class. -/
theorem wp_region_row {id : Nat} {a : Act} {w : World} {l : List Oper} (C : World → Prop) (is ks : List Nat) (hm : P.follows .mixedOrders = true) (hsel : Region.noSelect l.toArray = true) (hlen : is.length + ks.length = l.length)
    (hB : headB .any l.toArray ks is (Array.replicate l.toArray.size false) = true) (hC : C { w with drawn := w.drawn + 1 }) (hQ : ∀ c a d v w, Q (.panic c) (Act.put a d v) w → Q (.panic c) a w)
    (h : wpReads P l.toArray C (fun a' => wpActs P l.toArray Q C ks a' { w with drawn := w.drawn + 1 }) is a) : (Code.region id l.toArray true).wp P Q a w := by
  refine wp_region_any hm (wpAnyW.any (C := C) _ _ _ _ ?_)
  have := wpAnyW_of_reads (md := .any) hsel hC hQ is (Array.replicate l.toArray.size false) a hB h
  rw [hlen] at this
  simpa using this
end
end Go.Proofs.YtjpmlneihbckpaaGreatDoor
/- The walks of package avl: Height, get, with. -/
set_option linter.unusedVariables false
set_option linter.unusedSimpArgs false
namespace Go.Proofs.YtjpmlneihbckpaaGreatDoor
open Go.RowKit Go.Shelf
section
variable {w w' : World} {s N : Nat} {R : Nat → Option (List Nat)} {n : Nat}
set_option maxRecDepth 100000 in
theorem avHeight_at (h : Rd N w s R n) (x : Nat) (hx : x < 18446744073709551616) : Calls Tryz.prog 150 #[.pointer (some ⟨s, 0, none⟩), .int .u64 (x : Nat)] w fun e w' => e = .returned (.int .i64 (avH R x)) ∧ Below w.heap.size w w' := by
  obtain ⟨nd, hnd⟩ : ∃ nd, nodeG R x = nd := ⟨_, rfl⟩
  obtain ⟨z, hz⟩ : ∃ z, nodeE R x = z := ⟨_, rfl⟩
  have hG := Lib.hid (nget_lit h x hx nd hnd z hz)
  have hz1 : z < 10 := hz ▸ nodeE_lt R x
  have hok := h.nodeG x
  rw [hnd] at hok
  have hsz := hok.mark
  have hv : Hid (avH R x = wrap64 nd.mark) := Lib.hid (by unfold avH; rw [hnd])
  by_cases hz0 : z = 0
  · subst hz0
    clear h hnd hz hok
    go_enter Tryz.func150, Tryz.ntmps150
    go_wp2_with fail
    refine hG.out.mono ?_
    rintro e w1 ⟨rfl, hb⟩
    have hbH := Lib.hid hb
    have hz1 := hb.size
    clear hb
    go_wp2
    go_ret
    exact ⟨by rw [hv.out]; rfl, hbH.out.alloc hz1 _⟩
  · have d : ((z : Int) != 0) = true := by simp; omega
    have hnz : nd = Nd.zero := by rw [← hnd]; exact nodeG_err (by rw [hz]; exact hz0)
    subst hnz
    have hv2 : Hid (avH R x = 0) := Lib.hid (by rw [hv.out]; show wrap64 ((0 : Nat) : Int) = 0; exact IntWalk.wrap64_in 0 (by omega))
    clear h hnd hz hok
    go_enter Tryz.func150, Tryz.ntmps150
    go_wp2_with fail
    refine hG.out.mono ?_
    rintro e w1 ⟨rfl, hb⟩
    have hbH := Lib.hid hb
    have hz1 := hb.size
    clear hb
    go_wp2
    go_ret
    exact ⟨by rw [hv2.out]; rfl, hbH.out.alloc hz1 _⟩
theorem wrapU (z : Int) : IntKind.u64.wrap z = ((toU z : Nat) : Int) := by
  have h1 := Int.emod_nonneg z (show (18446744073709551616 : Int) ≠ 0 by omega)
  unfold toU
  rw [Int.toNat_of_nonneg h1]
  rfl
/-- a node, and where it is -/
def treeV (nd : Nd) (x : Nat) : Value := .agg #[.int .u64 (nd.key : Nat), .int .u64 (nd.val : Nat), .int .u64 (nd.left : Nat), .int .u64 (nd.right : Nat), .int .u64 (nd.mark : Nat), .int .u64 (nd.size : Nat), .int .u64 (x : Nat)]
def treeL (nd : Nd) (x : Nat) : List Value := [.int .u64 (nd.key : Nat), .int .u64 (nd.val : Nat), .int .u64 (nd.left : Nat), .int .u64 (nd.right : Nat), .int .u64 (nd.mark : Nat), .int .u64 (nd.size : Nat), .int .u64 (x : Nat)]
set_option maxHeartbeats 1000000 in
set_option maxRecDepth 100000 in
theorem avGet_at (h : Rd N w s R n) (x : Nat) (hx : x < 18446744073709551616) : Calls Tryz.prog 149 #[.pointer (some ⟨s, 0, none⟩), .int .u64 (x : Nat)] w fun e w' => e = .returned (treeV (nodeG R x) x) ∧ Below w.heap.size w w' := by
  obtain ⟨nd, hnd⟩ : ∃ nd, nodeG R x = nd := ⟨_, rfl⟩
  obtain ⟨z, hz⟩ : ∃ z, nodeE R x = z := ⟨_, rfl⟩
  have hG := Lib.hid (fun w' (hb : Below w.heap.size w w') => nget_lit (h.below hb) x hx nd hnd z hz)
  rw [hnd]
  clear h hnd hz
  unfold treeV
  go_enter Tryz.func149, Tryz.ntmps149
  go_wp2_with fail
  obtain ⟨W0, hW0⟩ : ∃ W0, W0 = w.alloc (Obj.cells #[.int .u64 0, .int .u64 0, .int .u64 0, .int .u64 0, .int .u64 0, .int .u64 0, .int .u64 0] 224) := ⟨_, rfl⟩
  rw [← hW0]
  have hb0 : Below w.heap.size w W0 := by rw [hW0]; exact (Below.refl _ w).alloc (Nat.le_refl _) _
  have hbx0 : Box W0 w.heap.size 224 [.int .u64 0, .int .u64 0, .int .u64 0, .int .u64 0, .int .u64 0, .int .u64 0, .int .u64 0] := by
    rw [hW0]
    exact Box.new w 224 [.int .u64 0, .int .u64 0, .int .u64 0, .int .u64 0, .int .u64 0, .int .u64 0, .int .u64 0]
  have hb0H := Lib.hid hb0
  have hbx0H := Lib.hid hbx0
  clear hb0 hbx0 hW0
  refine (hG.out _ hb0H.out).mono ?_
  rintro e w1 ⟨rfl, hb1⟩
  have hb1H := Lib.hid (hb0H.out.trans (hb1.mono hb0H.out.size))
  have hbx1 := hbx0H.out.below hb1
  have c0 := hbx1.at' (i := 0) rfl
  have c1 := hbx1.at' (i := 1) rfl
  have c2 := hbx1.at' (i := 2) rfl
  have c3 := hbx1.at' (i := 3) rfl
  have c4 := hbx1.at' (i := 4) rfl
  have c5 := hbx1.at' (i := 5) rfl
  have c6 := hbx1.at' (i := 6) rfl
  have hbx1H := Lib.hid hbx1
  have f0 := hbx1.free 0
  have f1 := hbx1.free 1
  have f2 := hbx1.free 2
  have f3 := hbx1.free 3
  have f4 := hbx1.free 4
  have f5 := hbx1.free 5
  have f6 := hbx1.free 6
  have hz1 : w.heap.size ≤ w1.heap.size := hb1H.out.size
  have hl1 : w.heap.size < w1.heap.size := hbx1.lt
  clear hb1 hbx1 hG
  go_wp2
  refine bodyPost_ret (v := treeV nd x) ?_ rfl ⟨rfl, (below_seven hb1H.out (Nat.le_refl _) _ _ _ _ _ _ _).alloc (by simp; exact hz1) _⟩
  have hB := (hbx1H.out.seven (.int .u64 (nd.key : Nat)) (.int .u64 (nd.val : Nat)) (.int .u64 (nd.left : Nat)) (.int .u64 (nd.right : Nat)) (.int .u64 (nd.mark : Nat)) (.int .u64 (nd.size : Nat)) (.int .u64 (x : Nat))).alloc (Obj.cells #[Value.int IntKind.u64 (nd.key : Nat), Value.int IntKind.u64 (nd.val : Nat), Value.int IntKind.u64 (nd.left : Nat), Value.int IntKind.u64 (nd.right : Nat), Value.int IntKind.u64 (nd.mark : Nat), Value.int IntKind.u64 (nd.size : Nat)] 53)
  have k0 := hB.at' (i := 0) rfl
  have k1 := hB.at' (i := 1) rfl
  have k2 := hB.at' (i := 2) rfl
  have k3 := hB.at' (i := 3) rfl
  have k4 := hB.at' (i := 4) rfl
  have k5 := hB.at' (i := 5) rfl
  have k6 := hB.at' (i := 6) rfl
  clear hB c0 c1 c2 c3 c4 c5 c6 f0 f1 f2 f3 f4 f5 f6
  simp [results, Tryz.f149, go_sem, treeV, k0, k1, k2, k3, k4, k5, k6]
section
variable {F : Nat → Prop} {H : List Nat} {P q most last G : Nat}
set_option maxHeartbeats 2000000 in
set_option maxRecDepth 100000 in
theorem with_at (h : StoreIs w s F R H P q most last G) (nd : Nd) (hok : nd.Ok) (x l r : Nat) (hx : x < 18446744073709551616) (hl : l < 18446744073709551616) (hr : r < 18446744073709551616) :
    Calls Tryz.prog 161 #[treeV nd x, .pointer (some ⟨s, 0, none⟩), .int .u64 (l : Nat), .int .u64 (r : Nat)] w fun e w' => e = .returned (.int .u64 (x : Nat)) ∧ StoreIs w' s F (withR R nd x l r) H P q most last G ∧ Turn w F w' F := by
  obtain ⟨n, hrd, _⟩ := h.rd
  have hHs := Lib.hid h
  have hRd := Lib.hid hrd
  have hok0 := Lib.hid hok
  obtain ⟨W1, hW1⟩ : ∃ W1, W1 = w.alloc (Obj.cells #[.int .u64 (nd.key : Nat), .int .u64 (nd.val : Nat), .int .u64 (l : Nat), .int .u64 (r : Nat), .int .u64 (nd.mark : Nat), .int .u64 (nd.size : Nat), .int .u64 (x : Nat)] 224) := ⟨_, rfl⟩
  have hbx1 : Box W1 w.heap.size 224 [.int .u64 (nd.key : Nat), .int .u64 (nd.val : Nat), .int .u64 (l : Nat), .int .u64 (r : Nat), .int .u64 (nd.mark : Nat), .int .u64 (nd.size : Nat), .int .u64 (x : Nat)] := by
    rw [hW1]
    exact Box.new w 224 [.int .u64 (nd.key : Nat), .int .u64 (nd.val : Nat), .int .u64 (l : Nat), .int .u64 (r : Nat), .int .u64 (nd.mark : Nat), .int .u64 (nd.size : Nat), .int .u64 (x : Nat)]
  have hb1 : Below w.heap.size w W1 := by
    rw [hW1]
    exact (Below.refl _ w).alloc (Nat.le_refl _) _
  have hFb : ¬ F w.heap.size := fun hf => by have := h.lt hf; omega
  have hA1 := Lib.hid (fun W (hb : Below w.heap.size w W) => avHeight_at (hrd.below hb) l hl)
  have hA2 := Lib.hid (fun W (hb : Below w.heap.size w W) => avHeight_at (hrd.below hb) r hr)
  have hB1 := Lib.hid (fun W (hb : Below w.heap.size w W) => size_at (hrd.below hb) l hl)
  have hB2 := Lib.hid (fun W (hb : Below w.heap.size w W) => size_at (hrd.below hb) r hr)
  have hbx1H := Lib.hid hbx1
  have hb1H := Lib.hid hb1
  have hW1H := Lib.hid hW1
  clear h hrd hok hbx1 hb1 hW1
  unfold treeV
  go_enter Tryz.func161, Tryz.ntmps161
  go_wp2_with fail
  rw [← hW1H.out]
  refine (hA1.out _ hb1H.out).mono ?_
  rintro e w2 ⟨rfl, hb2⟩
  have hb2H := Lib.hid (hb1H.out.trans (hb2.mono hb1H.out.size))
  have hbx2H := Lib.hid (hbx1H.out.below hb2)
  clear hb2
  go_wp2_with fail
  refine (hA2.out _ hb2H.out).mono ?_
  rintro e w3 ⟨rfl, hb3⟩
  have hb3H := Lib.hid (hb2H.out.trans (hb3.mono hb2H.out.size))
  have hbx3 := hbx2H.out.below hb3
  have hbx3H := Lib.hid hbx3
  have c4 := hbx3.at' (i := 4) rfl
  have f4 := hbx3.free 4
  clear hb3 hbx3
  go_wp2_with fail
  rw [wrapU]
  obtain ⟨mk, hmk⟩ : ∃ mk, mk = toU (wrap64 (max (avH R l) (avH R r) + 1)) := ⟨_, rfl⟩
  rw [← hmk]
  have hmkl : mk < 18446744073709551616 := hmk ▸ toU_lt _
  have hmkH := Lib.hid hmk
  clear c4 f4 hmk
  obtain ⟨W4, hW4⟩ : ∃ W4, W4 = w3.setCell ⟨w.heap.size, 4, none⟩ (.int .u64 (mk : Nat)) := ⟨_, rfl⟩
  have hbx4H : Hid (Box W4 w.heap.size 224 [.int .u64 (nd.key : Nat), .int .u64 (nd.val : Nat), .int .u64 (l : Nat), .int .u64 (r : Nat), .int .u64 (mk : Nat), .int .u64 (nd.size : Nat), .int .u64 (x : Nat)]) := Lib.hid (by rw [hW4]; exact hbx3H.out.set 4 _)
  have hb4H : Hid (Below w.heap.size w W4) := Lib.hid (by rw [hW4]; exact hb3H.out.setCell (p := ⟨w.heap.size, 4, none⟩) (Nat.le_refl _) _)
  rw [← hW4]
  clear hW4
  refine (hB1.out _ hb4H.out).mono ?_
  rintro e w5 ⟨rfl, hb5⟩
  have hb5H := Lib.hid (hb4H.out.trans (hb5.mono hb4H.out.size))
  have hbx5H := Lib.hid (hbx4H.out.below hb5)
  clear hb5
  go_wp2_with fail
  refine (hB2.out _ hb5H.out).mono ?_
  rintro e w6 ⟨rfl, hb6⟩
  have hb6H := Lib.hid (hb5H.out.trans (hb6.mono hb5H.out.size))
  have hbx6 := hbx5H.out.below hb6
  have hbx6H := Lib.hid hbx6
  have c5 := hbx6.at' (i := 5) rfl
  have f5 := hbx6.free 5
  have c0 := hbx6.at' (i := 0) rfl
  have c1 := hbx6.at' (i := 1) rfl
  have c2 := hbx6.at' (i := 2) rfl
  have c3 := hbx6.at' (i := 3) rfl
  have c4 := hbx6.at' (i := 4) rfl
  have c6 := hbx6.at' (i := 6) rfl
  clear hb6 hbx6
  go_wp2_with fail
  rw [wrapU]
  obtain ⟨sz, hsz⟩ : ∃ sz, sz = toU (wrap64 (wrap64 (tsizeR R l + tsizeR R r) + 1)) := ⟨_, rfl⟩
  rw [← hsz]
  have hszl : sz < 18446744073709551616 := hsz ▸ toU_lt _
  have hwn : Hid (withN R nd l r = ⟨nd.key, nd.val, l, r, mk, sz⟩) := Lib.hid (by unfold withN; rw [hmkH.out, hsz])
  clear hsz c0 c1 c2 c3 c4 c5 c6 f5
  obtain ⟨W7, hW7⟩ : ∃ W7, W7 = w6.setCell ⟨w.heap.size, 5, none⟩ (.int .u64 (sz : Nat)) := ⟨_, rfl⟩
  have hbx7H : Hid (Box W7 w.heap.size 224 [.int .u64 (nd.key : Nat), .int .u64 (nd.val : Nat), .int .u64 (l : Nat), .int .u64 (r : Nat), .int .u64 (mk : Nat), .int .u64 (sz : Nat), .int .u64 (x : Nat)]) := Lib.hid (by rw [hW7]; exact hbx6H.out.set 5 _)
  have hb7H : Hid (Below w.heap.size w W7) := Lib.hid (by rw [hW7]; exact hb6H.out.setCell (p := ⟨w.heap.size, 5, none⟩) (Nat.le_refl _) _)
  rw [← hW7]
  clear hW7
  have hPut := nput_any (hHs.out.below hb7H.out) x hx ⟨nd.key, nd.val, l, r, mk, sz⟩ ⟨hok0.out.key, hok0.out.val, hl, hr, hmkl, hszl⟩
  unfold Nd.v at hPut
  have hPutH := Lib.hid hPut
  clear hPut
  refine hPutH.out.mono ?_
  rintro e w8 ⟨rfl, hS8, hT8⟩
  have hbx8 := hbx7H.out.turn hT8 hFb
  have c6 := hbx8.at' (i := 6) rfl
  have hS8H : Hid (StoreIs w8 s F (withR R nd x l r) H P q most last G) := Lib.hid (by
    unfold withR putN
    rw [hwn.out]
    exact hS8)
  have hT8H := Lib.hid ((Turn.below (F := F) hb7H.out).trans hT8)
  clear hS8 hT8 hbx8 hPutH
  go_wp2
  go_ret
  exact ⟨rfl, hS8H.out, hT8H.out⟩
end
end
end Go.Proofs.YtjpmlneihbckpaaGreatDoor
/- The walks of package redblack: get, black, red, Black. -/
set_option linter.unusedVariables false
set_option linter.unusedSimpArgs false
namespace Go.Proofs.YtjpmlneihbckpaaGreatDoor
open Go.RowKit Go.Shelf
section
variable {w w' : World} {s N : Nat} {R : Nat → Option (List Nat)} {n : Nat}
set_option maxHeartbeats 1000000 in
set_option maxRecDepth 100000 in
theorem rbGet_at (h : Rd N w s R n) (x : Nat) (hx : x < 18446744073709551616) (nd : Nd) (hnd : nodeG R x = nd) : Calls Tryz.prog 55 #[.pointer (some ⟨s, 0, none⟩), .int .u64 (x : Nat)] w fun e w' => e = .returned (.agg #[.int .u64 (nd.key : Nat), .int .u64 (nd.val : Nat), .int .u64 (nd.left : Nat), .int .u64 (nd.right : Nat), .int .u64 (nd.mark : Nat), .int .u64 (nd.size : Nat)]) ∧ Below w.heap.size w w' := by
  obtain ⟨z, hz⟩ : ∃ z, nodeE R x = z := ⟨_, rfl⟩
  have hG := Lib.hid (fun w' (hb : Below w.heap.size w w') => nget_lit (h.below hb) x hx nd hnd z hz)
  clear h hnd hz
  go_enter Tryz.func55, Tryz.ntmps55
  go_wp2_with fail
  obtain ⟨W0, hW0⟩ : ∃ W0, W0 = w.alloc (Obj.cells #[.int .u64 0, .int .u64 0, .int .u64 0, .int .u64 0, .int .u64 0, .int .u64 0] 53) := ⟨_, rfl⟩
  rw [← hW0]
  have hb0 : Below w.heap.size w W0 := by rw [hW0]; exact (Below.refl _ w).alloc (Nat.le_refl _) _
  have hbx0 : Box W0 w.heap.size 53 [.int .u64 0, .int .u64 0, .int .u64 0, .int .u64 0, .int .u64 0, .int .u64 0] := by
    rw [hW0]
    exact Box.new w 53 [.int .u64 0, .int .u64 0, .int .u64 0, .int .u64 0, .int .u64 0, .int .u64 0]
  have hb0H := Lib.hid hb0
  have hbx0H := Lib.hid hbx0
  clear hb0 hbx0 hW0
  refine (hG.out _ hb0H.out).mono ?_
  rintro e w1 ⟨rfl, hb1⟩
  have hb1H := Lib.hid (hb0H.out.trans (hb1.mono hb0H.out.size))
  have hbx1 := hbx0H.out.below hb1
  have c0 := hbx1.at' (i := 0) rfl
  have c1 := hbx1.at' (i := 1) rfl
  have c2 := hbx1.at' (i := 2) rfl
  have c3 := hbx1.at' (i := 3) rfl
  have c4 := hbx1.at' (i := 4) rfl
  have c5 := hbx1.at' (i := 5) rfl
  have hbx1H := Lib.hid hbx1
  have f0 := hbx1.free 0
  have f1 := hbx1.free 1
  have f2 := hbx1.free 2
  have f3 := hbx1.free 3
  have f4 := hbx1.free 4
  have f5 := hbx1.free 5
  have hz1 : w.heap.size ≤ w1.heap.size := hb1H.out.size
  have hl1 : w.heap.size < w1.heap.size := hbx1.lt
  clear hb1 hbx1 hG
  go_wp2
  refine bodyPost_ret (v := .agg #[.int .u64 (nd.key : Nat), .int .u64 (nd.val : Nat), .int .u64 (nd.left : Nat), .int .u64 (nd.right : Nat), .int .u64 (nd.mark : Nat), .int .u64 (nd.size : Nat)]) ?_ rfl ⟨rfl, (below_six hb1H.out (Nat.le_refl _) _ _ _ _ _ _).alloc (by simp; exact hz1) _⟩
  have hB := (hbx1H.out.six (.int .u64 (nd.key : Nat)) (.int .u64 (nd.val : Nat)) (.int .u64 (nd.left : Nat)) (.int .u64 (nd.right : Nat)) (.int .u64 (nd.mark : Nat)) (.int .u64 (nd.size : Nat))).alloc (Obj.cells #[Value.int IntKind.u64 (nd.key : Nat), Value.int IntKind.u64 (nd.val : Nat), Value.int IntKind.u64 (nd.left : Nat), Value.int IntKind.u64 (nd.right : Nat), Value.int IntKind.u64 (nd.mark : Nat), Value.int IntKind.u64 (nd.size : Nat)] 53)
  have k0 := hB.at' (i := 0) rfl
  have k1 := hB.at' (i := 1) rfl
  have k2 := hB.at' (i := 2) rfl
  have k3 := hB.at' (i := 3) rfl
  have k4 := hB.at' (i := 4) rfl
  have k5 := hB.at' (i := 5) rfl
  clear hB c0 c1 c2 c3 c4 c5 f0 f1 f2 f3 f4 f5
  simp [results, Tryz.f55, go_sem, k0, k1, k2, k3, k4, k5]
theorem and_one (m : Nat) (hm : m < 18446744073709551616) : (bits BinOp.and IntKind.u64 (m : Int) 1 == 1) = (m % 2 == 1) := by
  rw [show (1 : Int) = ((1 : Nat) : Int) from rfl, bits_and_u64_nat _ _ hm (by omega), Nat.and_one_is_mod]
  have h2 : m % 2 = 0 ∨ m % 2 = 1 := by omega
  rcases h2 with h | h <;> rw [h] <;> rfl
theorem or_one (b : Nat) (hb : 2 * b + 1 < 18446744073709551616) : bits BinOp.or IntKind.u64 ((2 * b : Nat) : Int) 1 = ((2 * b + 1 : Nat) : Int) := by
  rw [show (1 : Int) = ((1 : Nat) : Int) from rfl, bits_or_u64_nat _ _ (by omega) (by omega)]
  congr 1
  have := Nat.two_pow_add_eq_or_of_lt (i := 1) (b := 1) (by omega) b
  rw [Nat.pow_one] at this
  omega
theorem nd_field4 (nd : Nd) (W : World) : (Instr.field 53 (.agg #[.int .u64 (nd.key : Nat), .int .u64 (nd.val : Nat), .int .u64 (nd.left : Nat), .int .u64 (nd.right : Nat), .int .u64 (nd.mark : Nat), .int .u64 (nd.size : Nat)]) 4).run Tryz.prog W = .ok (.int .u64 (nd.mark : Nat)) W := by
  simp [Instr.field, run_underlying Tryz.underlying53, asAgg, go_sem]
set_option maxRecDepth 100000 in
theorem rbBlack_at (h : Rd N w s R n) (x : Nat) (hx : x < 18446744073709551616) : Calls Tryz.prog 52 #[.pointer (some ⟨s, 0, none⟩), .int .u64 (x : Nat)] w fun e w' => e = .returned (.int .u64 (rbB R x : Nat)) ∧ Below w.heap.size w w' := by
  obtain ⟨nd, hnd⟩ : ∃ nd, nodeG R x = nd := ⟨_, rfl⟩
  have hG := Lib.hid (rbGet_at h x hx nd hnd)
  have hv : Hid (rbB R x = nd.mark / 2) := Lib.hid (by unfold rbB; rw [hnd])
  have hok := h.nodeG x
  rw [hnd] at hok
  have hmk := hok.mark
  have hfd := nd_field4 nd
  clear h hnd hok
  go_enter Tryz.func52, Tryz.ntmps52
  go_wp2_with fail
  refine hG.out.mono ?_
  rintro e w1 ⟨rfl, hb⟩
  have hbH := Lib.hid hb
  clear hb hG
  go_wp2
  go_ret
  rw [hv.out]
  exact ⟨rfl, hbH.out⟩
set_option maxRecDepth 100000 in
theorem rbRed_at (h : Rd N w s R n) (x : Nat) (hx : x < 18446744073709551616) : Calls Tryz.prog 53 #[.pointer (some ⟨s, 0, none⟩), .int .u64 (x : Nat)] w fun e w' => e = .returned (.bool (rbRed R x)) ∧ Below w.heap.size w w' := by
  obtain ⟨nd, hnd⟩ : ∃ nd, nodeG R x = nd := ⟨_, rfl⟩
  have hG := Lib.hid (rbGet_at h x hx nd hnd)
  have hv : Hid (rbRed R x = (nd.mark % 2 == 1)) := Lib.hid (by unfold rbRed; rw [hnd])
  have hok := h.nodeG x
  rw [hnd] at hok
  have hmk := hok.mark
  have hfd := nd_field4 nd
  clear h hnd hok
  go_enter Tryz.func53, Tryz.ntmps53
  go_wp2_with fail
  refine hG.out.mono ?_
  rintro e w1 ⟨rfl, hb⟩
  have hbH := Lib.hid hb
  clear hb hG
  go_wp2
  go_ret
  rw [hv.out]
  exact ⟨by rw [← and_one nd.mark hmk]; rfl, hbH.out⟩
set_option maxRecDepth 100000 in
theorem tblack_at (h : Rd N w s R n) (x : Nat) (hx : x < 18446744073709551616) : Calls Tryz.prog 20 #[.pointer (some ⟨s, 0, none⟩), .int .u64 (x : Nat)] w fun e w' => e = .returned (.tuple #[.int .i64 (rbB R x : Nat), .bool (!rbRed R x)]) ∧ Below w.heap.size w w' := by
  have hL := rlen_at h 0 (by omega)
  have hB := Lib.hid (fun W (hb : Below w.heap.size w W) => rbBlack_at (h.below hb) x hx)
  have hRe := Lib.hid (fun W (hb : Below w.heap.size w W) => rbRed_at (h.below hb) x hx)
  have hok := (h.nodeG x).mark
  have hv : rbB R x < 9223372036854775808 := by unfold rbB; omega
  obtain ⟨lv, hlv, hle⟩ : ∃ (a b : Nat), lenR R 0 = .tuple #[.int .i64 (a : Nat), .int .i64 (b : Nat)] ∧ b ≠ 1 := by
    unfold lenR
    cases R 0 with
    | none => exact ⟨0, 7, rfl, by decide⟩
    | some ws => exact ⟨ws.length, 0, rfl, by decide⟩
  rw [hle.1] at hL
  have hl1 := hle.2
  have dl : ((hlv : Int) == 1) = false := by simp; omega
  have hLH := Lib.hid hL
  generalize rbB R x = b at *
  generalize rbRed R x = r at *
  clear h hL hle hok
  go_enter Tryz.func20, Tryz.ntmps20
  go_wp2_with fail
  refine hLH.out.mono ?_
  rintro e w1 ⟨rfl, rfl⟩
  go_wp2_with fail
  refine (hB.out _ (Below.refl _ _)).mono ?_
  rintro e w1 ⟨rfl, hb1⟩
  have hb1H := Lib.hid hb1
  clear hb1
  go_wp2_with fail
  refine (hRe.out _ hb1H.out).mono ?_
  rintro e w2 ⟨rfl, hb2⟩
  have hb2H := Lib.hid (hb1H.out.trans (hb2.mono hb1H.out.size))
  clear hb2
  go_wp2
  go_ret2
  exact ⟨rfl, hb2H.out⟩
end
end Go.Proofs.YtjpmlneihbckpaaGreatDoor
/- The walks of package redblack: put. -/
set_option linter.unusedVariables false
set_option linter.unusedSimpArgs false
namespace Go.Proofs.YtjpmlneihbckpaaGreatDoor
open Go.RowKit Go.Shelf
section
variable {w w' : World} {s : Nat} {F : Nat → Prop} {R : Nat → Option (List Nat)} {H : List Nat} {P q most last G : Nat}
set_option maxHeartbeats 4000000 in
set_option maxRecDepth 100000 in
theorem rbPut_at (h : StoreIs w s F R H P q most last G) (x l r : Nat) (hx : x < 18446744073709551616) (hl : l < 18446744073709551616) (hr : r < 18446744073709551616) (red : Bool) :
    Calls Tryz.prog 58 #[.pointer (some ⟨s, 0, none⟩), .int .u64 (x : Nat), .int .u64 (l : Nat), .int .u64 (r : Nat), .bool red] w fun e w' => e = .returned (.int .u64 (x : Nat)) ∧ StoreIs w' s F (rbPut R x l r red) H P q most last G ∧ Turn w F w' F := by
  obtain ⟨n, hrd, _⟩ := h.rd
  obtain ⟨nd, hnd⟩ : ∃ nd, nodeG R x = nd := ⟨_, rfl⟩
  have hHs := Lib.hid h
  have hG := Lib.hid (rbGet_at hrd x hx nd hnd)
  have hok0 := Lib.hid (hnd ▸ hrd.nodeG x)
  have hFl := Lib.hid (fun b (hf : F b) => h.lt hf)
  have hBk := Lib.hid (fun W (hb : Below w.heap.size w W) => rbBlack_at (hrd.below hb) l hl)
  have hB1 := Lib.hid (fun W (hb : Below w.heap.size w W) => size_at (hrd.below hb) l hl)
  have hB2 := Lib.hid (fun W (hb : Below w.heap.size w W) => size_at (hrd.below hb) r hr)
  have hmk := (hrd.nodeG l).mark
  have hbl : rbB R l < 9223372036854775808 := by unfold rbB; omega
  obtain ⟨bl, hble⟩ : ∃ bl, bl = rbB R l := ⟨_, rfl⟩
  rw [← hble] at hBk hbl
  have hbleH := Lib.hid hble
  have hndH := Lib.hid hnd
  clear h hrd hmk hble hnd
  go_enter Tryz.func58, Tryz.ntmps58
  go_wp2_with fail
  refine hG.out.mono ?_
  rintro e w1 ⟨rfl, hb1⟩
  have hb1H := Lib.hid hb1
  have hz1 := hb1.size
  clear hb1 hG
  go_wp2_with fail
  obtain ⟨W2, hW2⟩ : ∃ W, W = w1.alloc (Obj.cells #[.int .u64 (nd.key : Nat), .int .u64 (nd.val : Nat), .int .u64 (l : Nat), .int .u64 (r : Nat), .int .u64 (nd.mark : Nat), .int .u64 (nd.size : Nat)] 53) := ⟨_, rfl⟩
  obtain ⟨b2, hb2⟩ : ∃ b, b = w1.heap.size := ⟨_, rfl⟩
  have hX2H : Hid (Box W2 b2 53 [.int .u64 (nd.key : Nat), .int .u64 (nd.val : Nat), .int .u64 (l : Nat), .int .u64 (r : Nat), .int .u64 (nd.mark : Nat), .int .u64 (nd.size : Nat)]) := Lib.hid (by rw [hW2, hb2]; exact Box.new w1 53 [.int .u64 (nd.key : Nat), .int .u64 (nd.val : Nat), .int .u64 (l : Nat), .int .u64 (r : Nat), .int .u64 (nd.mark : Nat), .int .u64 (nd.size : Nat)])
  have hB2H : Hid (Below w.heap.size w W2) := Lib.hid (by rw [hW2]; exact hb1H.out.alloc hz1 _)
  have hFb : ¬ F b2 := fun hf => by have := hFl.out b2 hf; omega
  have hbw : w.heap.size ≤ b2 := by omega
  rw [← hW2, ← hb2]
  clear hW2 hb2 hz1 hb1H
  refine (hBk.out _ hB2H.out).mono ?_
  rintro e W3 ⟨rfl, hb⟩
  have hB3H := Lib.hid (hB2H.out.trans (hb.mono hB2H.out.size))
  have hX3H := Lib.hid (hX2H.out.below hb)
  have c4 := hX3H.out.at' (i := 4) rfl
  have f4 := hX3H.out.free 4
  clear hb hB2H hX2H hBk
  cases red with
  | true =>
    have hmkv : (bits BinOp.or IntKind.u64 ((bl : Int) * 2) 1) = ((2 * bl + 1 : Nat) : Int) := by
      rw [show (bl : Int) * 2 = ((2 * bl : Nat) : Int) by omega]
      exact or_one bl (by omega)
    have hmkr : Hid (rbMark (rbB R l) true = 2 * bl + 1) := Lib.hid (by rw [← hbleH.out]; rfl)
    have hmkl : 2 * bl + 1 < 18446744073709551616 := by omega
    have hmkvH := Lib.hid hmkv
    clear hmkv
    go_wp2_with fail
    rw [hmkvH.out]
    clear hmkvH
    generalize 2 * bl + 1 = mk at *
    have hmkrH := hmkr
    clear c4 f4
    obtain ⟨W4, hW4⟩ : ∃ W, W = (W3.setCell ⟨b2, 4, none⟩ (.int .u64 ((bl : Int) * 2))).setCell ⟨b2, 4, none⟩ (.int .u64 (mk : Nat)) := ⟨_, rfl⟩
    have hX4H : Hid (Box W4 b2 53 [.int .u64 (nd.key : Nat), .int .u64 (nd.val : Nat), .int .u64 (l : Nat), .int .u64 (r : Nat), .int .u64 (mk : Nat), .int .u64 (nd.size : Nat)]) := Lib.hid (by rw [hW4]; exact (hX3H.out.set 4 _).set 4 _)
    have hB4H : Hid (Below w.heap.size w W4) := Lib.hid (by rw [hW4]; exact (hB3H.out.setCell (p := ⟨b2, 4, none⟩) hbw _).setCell (p := ⟨b2, 4, none⟩) hbw _)
    rw [← hW4]
    clear hW4
    refine (hB1.out _ hB4H.out).mono ?_
    rintro e W5 ⟨rfl, hb⟩
    have hB5H := Lib.hid (hB4H.out.trans (hb.mono hB4H.out.size))
    have hX5H := Lib.hid (hX4H.out.below hb)
    clear hb
    go_wp2_with fail
    refine (hB2.out _ hB5H.out).mono ?_
    rintro e W6 ⟨rfl, hb⟩
    have hB6H := Lib.hid (hB5H.out.trans (hb.mono hB5H.out.size))
    have hX6H := Lib.hid (hX5H.out.below hb)
    have c0 := hX6H.out.at' (i := 0) rfl
    have c1 := hX6H.out.at' (i := 1) rfl
    have c2 := hX6H.out.at' (i := 2) rfl
    have c3 := hX6H.out.at' (i := 3) rfl
    have c4 := hX6H.out.at' (i := 4) rfl
    have c5 := hX6H.out.at' (i := 5) rfl
    have f5 := hX6H.out.free 5
    clear hb
    go_wp2_with fail
    rw [wrapU]
    obtain ⟨sz, hsz⟩ : ∃ sz, sz = toU (wrap64 (wrap64 (tsizeR R l + tsizeR R r) + 1)) := ⟨_, rfl⟩
    rw [← hsz]
    have hszl : sz < 18446744073709551616 := hsz ▸ toU_lt _
    have hwn : Hid (rbN R x l r true = ⟨nd.key, nd.val, l, r, mk, sz⟩) := Lib.hid (by unfold rbN; rw [hndH.out, hmkrH.out, hsz])
    clear hsz c0 c1 c2 c3 c4 c5 f5
    obtain ⟨W7, hW7⟩ : ∃ W, W = W6.setCell ⟨b2, 5, none⟩ (.int .u64 (sz : Nat)) := ⟨_, rfl⟩
    have hB7H : Hid (Below w.heap.size w W7) := Lib.hid (by rw [hW7]; exact hB6H.out.setCell (p := ⟨b2, 5, none⟩) hbw _)
    rw [← hW7]
    clear hW7
    have hPut := nput_any (hHs.out.below hB7H.out) x hx ⟨nd.key, nd.val, l, r, mk, sz⟩ ⟨hok0.out.key, hok0.out.val, hl, hr, hmkl, hszl⟩
    unfold Nd.v at hPut
    have hPutH := Lib.hid hPut
    clear hPut
    refine hPutH.out.mono ?_
    rintro e W8 ⟨rfl, hS8, hT8⟩
    have hS8H : Hid (StoreIs W8 s F (rbPut R x l r true) H P q most last G) := Lib.hid (by
      unfold rbPut putN
      rw [hwn.out]
      exact hS8)
    have hT8H := Lib.hid ((Turn.below (F := F) hB7H.out).trans hT8)
    clear hS8 hT8 hPutH
    go_wp2
    go_ret
    exact ⟨rfl, hS8H.out, hT8H.out⟩
  | false =>
    have hmkv : (IntKind.u64.wrap ((bl : Int) * 2 + 2)) = (((2 * bl + 2) % 18446744073709551616 : Nat) : Int) := by
      rw [wrapU]
      unfold toU
      omega
    have hmkr : Hid (rbMark (rbB R l) false = (2 * bl + 2) % 18446744073709551616) := Lib.hid (by rw [← hbleH.out]; rfl)
    have hmkl : (2 * bl + 2) % 18446744073709551616 < 18446744073709551616 := by omega
    have hmkvH := Lib.hid hmkv
    clear hmkv
    go_wp2_with fail
    rw [hmkvH.out]
    clear hmkvH
    generalize (2 * bl + 2) % 18446744073709551616 = mk at *
    have hmkrH := hmkr
    clear c4 f4
    obtain ⟨W4, hW4⟩ : ∃ W, W = (W3.setCell ⟨b2, 4, none⟩ (.int .u64 ((bl : Int) * 2))).setCell ⟨b2, 4, none⟩ (.int .u64 (mk : Nat)) := ⟨_, rfl⟩
    have hX4H : Hid (Box W4 b2 53 [.int .u64 (nd.key : Nat), .int .u64 (nd.val : Nat), .int .u64 (l : Nat), .int .u64 (r : Nat), .int .u64 (mk : Nat), .int .u64 (nd.size : Nat)]) := Lib.hid (by rw [hW4]; exact (hX3H.out.set 4 _).set 4 _)
    have hB4H : Hid (Below w.heap.size w W4) := Lib.hid (by rw [hW4]; exact (hB3H.out.setCell (p := ⟨b2, 4, none⟩) hbw _).setCell (p := ⟨b2, 4, none⟩) hbw _)
    rw [← hW4]
    clear hW4
    refine (hB1.out _ hB4H.out).mono ?_
    rintro e W5 ⟨rfl, hb⟩
    have hB5H := Lib.hid (hB4H.out.trans (hb.mono hB4H.out.size))
    have hX5H := Lib.hid (hX4H.out.below hb)
    clear hb
    go_wp2_with fail
    refine (hB2.out _ hB5H.out).mono ?_
    rintro e W6 ⟨rfl, hb⟩
    have hB6H := Lib.hid (hB5H.out.trans (hb.mono hB5H.out.size))
    have hX6H := Lib.hid (hX5H.out.below hb)
    have c0 := hX6H.out.at' (i := 0) rfl
    have c1 := hX6H.out.at' (i := 1) rfl
    have c2 := hX6H.out.at' (i := 2) rfl
    have c3 := hX6H.out.at' (i := 3) rfl
    have c4 := hX6H.out.at' (i := 4) rfl
    have c5 := hX6H.out.at' (i := 5) rfl
    have f5 := hX6H.out.free 5
    clear hb
    go_wp2_with fail
    rw [wrapU]
    obtain ⟨sz, hsz⟩ : ∃ sz, sz = toU (wrap64 (wrap64 (tsizeR R l + tsizeR R r) + 1)) := ⟨_, rfl⟩
    rw [← hsz]
    have hszl : sz < 18446744073709551616 := hsz ▸ toU_lt _
    have hwn : Hid (rbN R x l r false = ⟨nd.key, nd.val, l, r, mk, sz⟩) := Lib.hid (by unfold rbN; rw [hndH.out, hmkrH.out, hsz])
    clear hsz c0 c1 c2 c3 c4 c5 f5
    obtain ⟨W7, hW7⟩ : ∃ W, W = W6.setCell ⟨b2, 5, none⟩ (.int .u64 (sz : Nat)) := ⟨_, rfl⟩
    have hB7H : Hid (Below w.heap.size w W7) := Lib.hid (by rw [hW7]; exact hB6H.out.setCell (p := ⟨b2, 5, none⟩) hbw _)
    rw [← hW7]
    clear hW7
    have hPut := nput_any (hHs.out.below hB7H.out) x hx ⟨nd.key, nd.val, l, r, mk, sz⟩ ⟨hok0.out.key, hok0.out.val, hl, hr, hmkl, hszl⟩
    unfold Nd.v at hPut
    have hPutH := Lib.hid hPut
    clear hPut
    refine hPutH.out.mono ?_
    rintro e W8 ⟨rfl, hS8, hT8⟩
    have hS8H : Hid (StoreIs W8 s F (rbPut R x l r false) H P q most last G) := Lib.hid (by
      unfold rbPut putN
      rw [hwn.out]
      exact hS8)
    have hT8H := Lib.hid ((Turn.below (F := F) hB7H.out).trans hT8)
    clear hS8 hT8 hPutH
    go_wp2
    go_ret
    exact ⟨rfl, hS8H.out, hT8H.out⟩
end
end Go.Proofs.YtjpmlneihbckpaaGreatDoor

/-
  The seat's own texts, shared part b: PaT, Box, Row, AvW1, AvW2, AvW3.
-/
import Derived.Test.YtijpmjaeanocpaaGreatDoorAPa
import Derived.StillTail
import Derived.Deep.DeepMust

set_option linter.unusedVariables false
set_option linter.unusedSimpArgs false
namespace Go.Proofs.YtijpmjaeanocpaaGreatDoor
open Go.RowKit Go.Shelf
namespace BT
def Kd (rd : Bool) (t : BT) : Prop := if rd then t.RB else t.Avl
theorem Kd.nil (rd : Bool) : Kd rd .nil := by unfold Kd; split <;> trivial
theorem Kd.left {rd : Bool} {x kx vx m : Nat} {k v : ByteArray} {l r : BT} (h : Kd rd (.node x kx vx m k v l r)) : Kd rd l := by
  unfold Kd at h ⊢
  split
  · rw [if_pos ‹_›] at h; exact h.2.2.1
  · rw [if_neg ‹_›] at h; exact h.2.2.2.1
theorem Kd.right {rd : Bool} {x kx vx m : Nat} {k v : ByteArray} {l r : BT} (h : Kd rd (.node x kx vx m k v l r)) : Kd rd r := by
  unfold Kd at h ⊢
  split
  · rw [if_pos ‹_›] at h; exact h.2.2.2
  · rw [if_neg ‹_›] at h; exact h.2.2.2.2
end BT
inductive Ln where
  | none
  | one (x kx vx : Nat) (k v : ByteArray)
namespace Ln
def root : Ln → Nat
  | none => 0
  | one x _ _ _ _ => x
def hs : Ln → List Nat
  | none => []
  | one x kx vx _ _ => [x, kx, vx]
def nodes : Ln → List Nat
  | none => []
  | one x _ _ _ _ => [x]
def prs : Ln → List (ByteArray × ByteArray)
  | none => []
  | one _ _ _ k v => [(k, v)]
def At (R : Nat → Option (List Nat)) : Ln → Prop
  | none => True
  | one x kx vx k v => BT.Lo R x kx vx k v
theorem At.congr {R R' : Nat → Option (List Nat)} : ∀ {m : Ln}, m.At R → (∀ z ∈ m.hs, R' z = R z) → m.At R'
  | none, _, _ => trivial
  | one x kx vx k v, h, e => BT.Lo.congr h (e x (by simp [hs])) (e kx (by simp [hs])) (e vx (by simp [hs]))
theorem nodes_hs : ∀ (m : Ln) (x : Nat), x ∈ m.nodes → x ∈ m.hs
  | none, x, h => h
  | one y _ _ _ _, x, h => by simp only [nodes, List.mem_singleton] at h; subst h; simp [hs]
end Ln
section
variable {R R' : Nat → Option (List Nat)} {rd : Bool}
theorem joinK_bt {l r : BT} {x kx vx : Nat} {k v : ByteArray} (h0 : R 0 = none) (hl : l.At R) (hr : r.At R) (al : BT.Kd rd l) (ar : BT.Kd rd r) (hm : BT.Lo R x kx vx k v)
    (hn : (BT.node x kx vx 0 k v l r).hs.Nodup) (sz : l.size + r.size ≤ 100) :
    ∃ (t : BT) (R' : Nat → Option (List Nat)), joinK rd R l.root x r.root = (R', t.root, 0) ∧ t.At R' ∧ BT.Sim (.node x kx vx 0 k v l r) t ∧ BT.Kd rd t ∧ (∀ z, z ∉ (BT.node x kx vx 0 k v l r).nodes → R' z = R z) := by
  have l1 := BT.hgt_le l
  have l2 := BT.hgt_le r
  have hx : isR R x = true := by unfold isR; rw [hm.e]; simp
  have hc : x ≠ 0 ∧ isR R l.root = true ∧ isR R x = true ∧ isR R r.root = true := ⟨hm.nz, isR_root hl, hx, isR_root hr⟩
  cases rd with
  | false =>
    unfold joinK BT.Kd at *
    simp only [Bool.false_eq_true, if_false] at *
    rw [avTop_yes hc]
    have := BT.join_bt (nd := nodeG R x) (xm := x) (k := k) (v := v) 100 l r h0 hl hr al ar hm.e hm.nz (by rw [hm.key]; exact hm.kt) (by rw [hm.val]; exact hm.vt) hm.ks hm.vs (by rw [hm.key, hm.val]; exact hn) (by omega) (by omega)
    rw [hm.key, hm.val] at this
    generalize avJoin (nodeG R x) x 100 R l.root r.root = p at *
    obtain ⟨t, o, _, _⟩ := this
    exact ⟨t, p.1, by unfold okW; rw [o.root], o.at', o.sim, o.avl, o.frame⟩
  | true =>
    unfold joinK BT.Kd at *
    simp only [if_true] at *
    rw [rbJ_yes hc]
    have := BT.rbAll_bt h0 hl hr al ar hm hn (by omega)
    generalize rbAll R l.root x r.root = p at *
    obtain ⟨t, o, _, _, _⟩ := this
    exact ⟨t, p.1, by unfold okW; rw [o.root], o.at', o.sim, o.rb, o.frame⟩
theorem cutJ_bt {l r : BT} {x kx vx : Nat} {k v : ByteArray} (h0 : R 0 = none) (hl : l.At R) (hr : r.At R) (al : BT.Kd rd l) (ar : BT.Kd rd r) (hm : BT.Lo R x kx vx k v)
    (hn : (BT.node x kx vx 0 k v l r).hs.Nodup) (sz : l.size + r.size ≤ 100) :
    ∃ (t : BT) (R' : Nat → Option (List Nat)), cutJ rd R l.root x r.root = (R', t.root) ∧ t.At R' ∧ BT.Sim (.node x kx vx 0 k v l r) t ∧ BT.Kd rd t ∧ (∀ z, z ∉ (BT.node x kx vx 0 k v l r).nodes → R' z = R z) := by
  obtain ⟨t, R', h1, h2⟩ := joinK_bt h0 hl hr al ar hm hn sz
  refine ⟨t, R', ?_, h2⟩
  unfold cutJ
  rw [h1]
  rfl
theorem BT.lo {x kx vx m : Nat} {k v : ByteArray} {l r : BT} (h : (BT.node x kx vx m k v l r).At R) : BT.Lo R x kx vx k v := BT.Lo.of (tn := false) h
theorem BT.At.root_nz {t : BT} (h : t.At R) (hn : t ≠ .nil) : t.root ≠ 0 := by
  cases t with
  | nil => exact absurd rfl hn
  | node x kx vx m k v l r => exact h.1
structure CutOut (rd : Bool) (R R' : Nat → Option (List Nat)) (key : ByteArray) (t l : BT) (m : Ln) (r : BT) : Prop where
  la : l.At R'
  ma : m.At R'
  ra : r.At R'
  lk : BT.Kd rd l
  rk : BT.Kd rd r
  hs : l.hs ++ (m.hs ++ r.hs) = t.hs
  nodes : l.nodes ++ (m.nodes ++ r.nodes) = t.nodes
  prs : l.prs ++ (m.prs ++ r.prs) = t.prs
  frame : ∀ z, z ∉ t.nodes → R' z = R z
  ky : ∀ p ∈ m.prs, p.1 = key
  low : Rising t.prs → ∀ p ∈ l.prs, Tx.cmp p.1 key < 0
  high : Rising t.prs → ∀ p ∈ r.prs, Tx.cmp key p.1 < 0
theorem rising_left {a b : List Pr} (h : Rising (a ++ b)) : Rising a := (List.pairwise_append.1 h).1
theorem rising_right {a b : List Pr} (h : Rising (a ++ b)) : Rising b := (List.pairwise_append.1 h).2.1
theorem cutS_bt (key : ByteArray) : ∀ (f : Nat) (t : BT) (R : Nat → Option (List Nat)), R 0 = none → t.At R → BT.Kd rd t → t.hs.Nodup → t.size ≤ 100 → t.hgt ≤ f →
    ∃ (l : BT) (m : Ln) (r : BT) (R' : Nat → Option (List Nat)), cutS rd key f R t.root = (R', l.root, m.root, r.root) ∧ CutOut rd R R' key t l m r := by
  intro f
  induction f with
  | zero =>
    intro t R h0 ht hk hn hs hf
    cases t with
    | nil => exact ⟨.nil, .none, .nil, R, rfl, trivial, trivial, trivial, hk, hk, rfl, rfl, rfl, fun _ _ => rfl, (fun p hp => by cases hp), (fun _ p hp => by cases hp), (fun _ p hp => by cases hp)⟩
    | node x kx vx m k v l r => simp only [BT.hgt] at hf; omega
  | succ f ih =>
    intro t R h0 ht hk hn hs hf
    cases t with
    | nil => exact ⟨.nil, .none, .nil, R, by show cutS rd key (f + 1) R 0 = _; rw [cutS, if_pos rfl]; rfl, trivial, trivial, trivial, hk, hk, rfl, rfl, rfl, fun _ _ => rfl, (fun p hp => by cases hp), (fun _ p hp => by cases hp), (fun _ p hp => by cases hp)⟩
    | node x kx vx m k v L T =>
      obtain ⟨e1, e2⟩ := ht.root_at
      have hx0 := ht.1
      have hlo := BT.lo ht
      have hL := ht.2.2.2.2.2.2.1
      have hT := ht.2.2.2.2.2.2.2
      have hkey : keyR R (nodeG R x) = k := by rw [e2]; exact _root_.Go.Proofs.YtijpmjaeanocpaaGreatDoor.BT.key_at (nd := ⟨kx, vx, L.root, T.root, m, L.size + 1 + T.size⟩) ht.2.2.1 ht.2.2.2.2.1
      obtain ⟨nL, nT, ⟨a1, a2, a3⟩, ⟨b1, b2, b3⟩, ⟨c1, c2, c3⟩, c4⟩ := BT.node_nodup.1 hn
      simp only [BT.size] at hs
      simp only [BT.hgt] at hf
      have mL := Nat.le_max_left L.hgt T.hgt
      have mT := Nat.le_max_right L.hgt T.hgt
      show ∃ l m r R', cutS rd key (f + 1) R x = _ ∧ _
      rw [cutS, if_neg hx0, hkey, e2]
      simp only
      by_cases q1 : Tx.cmp key k < 0
      · rw [if_pos q1]
        obtain ⟨l', m', r', R1, g1, o⟩ := ih L R h0 hL hk.left nL (by omega) (by omega)
        rw [g1]
        simp only
        have hpr := o.hs
        have fr : ∀ z, z ∉ L.hs → R1 z = R z := fun z hz => o.frame z (fun h => hz (BT.nodes_hs L z h))
        have hr'L : ∀ z ∈ r'.hs, z ∈ L.hs := fun z hz => by rw [← hpr]; simp [hz]
        have hm'L : ∀ z ∈ m'.hs, z ∈ L.hs := fun z hz => by rw [← hpr]; simp [hz]
        have hl'L : ∀ z ∈ l'.hs, z ∈ L.hs := fun z hz => by rw [← hpr]; simp [hz]
        have h01 : R1 0 = none := (o.frame 0 (BT.nodes_zero h0 hL)).trans h0
        have hT1 : T.At R1 := hT.congr fun z hz => fr z (fun h => c4 z h hz)
        have hlo1 : BT.Lo R1 x kx vx k v := hlo.congr (fr x a1) (fr kx a2) (fr vx a3)
        have nr' : (l'.hs ++ (m'.hs ++ r'.hs)).Nodup := by rw [hpr]; exact nL
        obtain ⟨n1, n2, n3⟩ := List.nodup_append.1 nr'
        obtain ⟨n4, n5, n6⟩ := List.nodup_append.1 n2
        have hnJ : (BT.node x kx vx 0 k v r' T).hs.Nodup := BT.node_nodup.2 ⟨n5, nT, ⟨fun h => a1 (hr'L x h), fun h => a2 (hr'L kx h), fun h => a3 (hr'L vx h)⟩, ⟨b1, b2, b3⟩, ⟨c1, c2, c3⟩, fun z hz => c4 z (hr'L z hz)⟩
        have sz : r'.size + T.size ≤ 100 := by
          have h1 := congrArg List.length o.nodes
          simp only [List.length_append, BT.nodes_len] at h1
          omega
        obtain ⟨t', R2, g2, p1, p2, p3, p4⟩ := cutJ_bt h01 o.ra hT1 o.rk hk.right hlo1 hnJ sz
        rw [g2]
        have fr2 : ∀ z, z ∉ r'.hs → z ≠ x → z ∉ T.hs → R2 z = R1 z := fun z h1 h2 h3 => p4 z (by
          simp only [BT.nodes, List.mem_append, List.mem_cons, not_or]
          exact ⟨fun h => h1 (BT.nodes_hs r' z h), h2, fun h => h3 (BT.nodes_hs T z h)⟩)
        refine ⟨l', m', t', R2, rfl, ?_⟩
        constructor
        · exact o.la.congr fun z hz => fr2 z (fun h => n3 z hz z (List.mem_append.2 (.inr h)) rfl) (fun e => a1 (e ▸ hl'L z hz)) (fun h => c4 z (hl'L z hz) h)
        · exact o.ma.congr fun z hz => fr2 z (fun h => n6 z hz z h rfl) (fun e => a1 (e ▸ hm'L z hz)) (fun h => c4 z (hm'L z hz) h)
        · exact p1
        · exact o.lk
        · exact p3
        · rw [p2.hs]; simp only [BT.hs]; rw [← hpr]; simp only [List.append_assoc]
        · rw [p2.nodes]; simp only [BT.nodes]; rw [← o.nodes]; simp only [List.append_assoc]
        · rw [p2.prs]; simp only [BT.prs]; rw [← o.prs]; simp only [List.append_assoc]
        · intro z hz
          simp only [BT.nodes, List.mem_append, List.mem_cons, not_or] at hz
          refine (p4 z ?_).trans (o.frame z hz.1)
          simp only [BT.nodes, List.mem_append, List.mem_cons, not_or]
          refine ⟨fun h => hz.1 ?_, hz.2⟩
          rw [← o.nodes]; simp [h]
        · exact o.ky
        · intro hr; exact o.low (rising_left hr)
        · intro hr p hp
          rw [p2.prs] at hp
          simp only [BT.prs, List.mem_append, List.mem_cons] at hp
          rcases hp with h | rfl | h
          · exact o.high (rising_left hr) p h
          · exact q1
          · have h1 := (List.pairwise_append.1 hr).2.1
            exact cmp_lt_trans q1 ((List.pairwise_cons.1 h1).1 p h)
      · rw [if_neg q1]
        by_cases q2 : 0 < Tx.cmp key k
        · rw [if_pos q2]
          obtain ⟨l', m', r', R1, g1, o⟩ := ih T R h0 hT hk.right nT (by omega) (by omega)
          rw [g1]
          simp only
          have hpr := o.hs
          have fr : ∀ z, z ∉ T.hs → R1 z = R z := fun z hz => o.frame z (fun h => hz (BT.nodes_hs T z h))
          have hr'T : ∀ z ∈ r'.hs, z ∈ T.hs := fun z hz => by rw [← hpr]; simp [hz]
          have hm'T : ∀ z ∈ m'.hs, z ∈ T.hs := fun z hz => by rw [← hpr]; simp [hz]
          have hl'T : ∀ z ∈ l'.hs, z ∈ T.hs := fun z hz => by rw [← hpr]; simp [hz]
          have h01 : R1 0 = none := (o.frame 0 (BT.nodes_zero h0 hT)).trans h0
          have hL1 : L.At R1 := hL.congr fun z hz => fr z (fun h => c4 z hz h)
          have hlo1 : BT.Lo R1 x kx vx k v := hlo.congr (fr x b1) (fr kx b2) (fr vx b3)
          have nr' : (l'.hs ++ (m'.hs ++ r'.hs)).Nodup := by rw [hpr]; exact nT
          obtain ⟨n1, n2, n3⟩ := List.nodup_append.1 nr'
          obtain ⟨n4, n5, n6⟩ := List.nodup_append.1 n2
          have hnJ : (BT.node x kx vx 0 k v L l').hs.Nodup := BT.node_nodup.2 ⟨nL, n1, ⟨a1, a2, a3⟩, ⟨fun h => b1 (hl'T x h), fun h => b2 (hl'T kx h), fun h => b3 (hl'T vx h)⟩, ⟨c1, c2, c3⟩, fun z hz hz' => c4 z hz (hl'T z hz')⟩
          have sz : L.size + l'.size ≤ 100 := by
            have h1 := congrArg List.length o.nodes
            simp only [List.length_append, BT.nodes_len] at h1
            omega
          obtain ⟨t', R2, g2, p1, p2, p3, p4⟩ := cutJ_bt h01 hL1 o.la hk.left o.lk hlo1 hnJ sz
          rw [g2]
          have fr2 : ∀ z, z ∉ L.hs → z ≠ x → z ∉ l'.hs → R2 z = R1 z := fun z h1 h2 h3 => p4 z (by
            simp only [BT.nodes, List.mem_append, List.mem_cons, not_or]
            exact ⟨fun h => h1 (BT.nodes_hs L z h), h2, fun h => h3 (BT.nodes_hs l' z h)⟩)
          refine ⟨t', m', r', R2, rfl, ?_⟩
          constructor
          · exact p1
          · exact o.ma.congr fun z hz => fr2 z (fun h => c4 z h (hm'T z hz)) (fun e => b1 (e ▸ hm'T z hz)) (fun h => n3 z h z (List.mem_append.2 (.inl hz)) rfl)
          · exact o.ra.congr fun z hz => fr2 z (fun h => c4 z h (hr'T z hz)) (fun e => b1 (e ▸ hr'T z hz)) (fun h => n3 z h z (List.mem_append.2 (.inr hz)) rfl)
          · exact p3
          · exact o.rk
          · rw [p2.hs]; simp only [BT.hs]; rw [← hpr]; simp only [List.append_assoc, List.cons_append]
          · rw [p2.nodes]; simp only [BT.nodes]; rw [← o.nodes]; simp only [List.append_assoc, List.cons_append]
          · rw [p2.prs]; simp only [BT.prs]; rw [← o.prs]; simp only [List.append_assoc, List.cons_append]
          · intro z hz
            simp only [BT.nodes, List.mem_append, List.mem_cons, not_or] at hz
            refine (p4 z ?_).trans (o.frame z hz.2.2)
            simp only [BT.nodes, List.mem_append, List.mem_cons, not_or]
            refine ⟨hz.1, hz.2.1, fun h => hz.2.2 ?_⟩
            rw [← o.nodes]; simp [h]
          · exact o.ky
          · intro hr p hp
            rw [p2.prs] at hp
            simp only [BT.prs, List.mem_append, List.mem_cons] at hp
            have hxk : Tx.cmp k key < 0 := by rw [cmp_swap key k]; omega
            rcases hp with h | rfl | h
            · exact cmp_lt_trans ((List.pairwise_append.1 hr).2.2 p h (k, v) (by simp)) hxk
            · exact hxk
            · exact o.low (List.pairwise_cons.1 (rising_right hr)).2 p h
          · intro hr; exact o.high (List.pairwise_cons.1 (rising_right hr)).2
        · rw [if_neg q2]
          have hkk : key = k := cmp_zero.1 (by omega)
          refine ⟨L, .one x kx vx k v, T, R, rfl, hL, hlo, hT, hk.left, hk.right, rfl, rfl, rfl, fun _ _ => rfl, ?_, ?_, ?_⟩
          · intro p hp
            simp only [Ln.prs, List.mem_singleton] at hp
            rw [hp, hkk]
          · intro hr p hp
            rw [hkk]
            exact (List.pairwise_append.1 hr).2.2 p hp (k, v) (by simp)
          · intro hr p hp
            rw [hkk]
            exact (List.pairwise_cons.1 (rising_right hr)).1 p hp
theorem cutL_bt : ∀ (f : Nat) (t : BT) (R : Nat → Option (List Nat)), R 0 = none → t.At R → t ≠ .nil → BT.Kd rd t → t.hs.Nodup → t.size ≤ 100 → t.hgt ≤ f + 1 →
    ∃ (l : BT) (x kx vx : Nat) (k v : ByteArray) (R' : Nat → Option (List Nat)), cutL rd f R t.root = (R', l.root, x) ∧ l.At R' ∧ BT.Lo R' x kx vx k v ∧ BT.Kd rd l ∧
      l.hs ++ [x, kx, vx] = t.hs ∧ l.nodes ++ [x] = t.nodes ∧ l.prs ++ [(k, v)] = t.prs ∧ (∀ z, z ∉ t.nodes → R' z = R z) := by
  intro f
  induction f with
  | zero =>
    intro t R h0 ht hnil hk hn hs hf
    cases t with
    | nil => exact absurd rfl hnil
    | node x kx vx m k v L T =>
      obtain ⟨e1, e2⟩ := ht.root_at
      simp only [BT.hgt] at hf
      have hT : T = .nil := by
        cases T with
        | nil => rfl
        | node => simp only [BT.hgt] at hf; omega
      subst hT
      exact ⟨L, x, kx, vx, k, v, R, by rw [BT.root, cutL, e2], ht.2.2.2.2.2.2.1, BT.lo ht, hk.left, rfl, rfl, rfl, fun _ _ => rfl⟩
  | succ f ih =>
    intro t R h0 ht hnil hk hn hs hf
    cases t with
    | nil => exact absurd rfl hnil
    | node x kx vx m k v L T =>
      obtain ⟨e1, e2⟩ := ht.root_at
      have hlo := BT.lo ht
      have hL := ht.2.2.2.2.2.2.1
      have hT := ht.2.2.2.2.2.2.2
      obtain ⟨nL, nT, ⟨a1, a2, a3⟩, ⟨b1, b2, b3⟩, ⟨c1, c2, c3⟩, c4⟩ := BT.node_nodup.1 hn
      simp only [BT.size] at hs
      simp only [BT.hgt] at hf
      have mT := Nat.le_max_right L.hgt T.hgt
      show ∃ l x' kx' vx' k' v' R', cutL rd (f + 1) R x = _ ∧ _
      rw [cutL, e2]
      simp only
      by_cases hTn : T = .nil
      · subst hTn
        rw [if_pos (show BT.nil.root = 0 from rfl)]
        exact ⟨L, x, kx, vx, k, v, R, rfl, hL, hlo, hk.left, rfl, rfl, rfl, fun _ _ => rfl⟩
      · rw [if_neg (hT.root_nz hTn)]
        obtain ⟨l', y, ky, vy, k', v', R1, g1, o1, o2, o3, o4, o5, o6, o7⟩ := ih T R h0 hT hTn hk.right nT (by omega) (by omega)
        rw [g1]
        simp only
        have fr : ∀ z, z ∉ T.hs → R1 z = R z := fun z hz => o7 z (fun h => hz (BT.nodes_hs T z h))
        have hl'T : ∀ z ∈ l'.hs, z ∈ T.hs := fun z hz => by rw [← o4]; simp [hz]
        have hyT : ∀ z ∈ [y, ky, vy], z ∈ T.hs := fun z hz => by rw [← o4]; exact List.mem_append.2 (.inr hz)
        have h01 : R1 0 = none := (o7 0 (BT.nodes_zero h0 hT)).trans h0
        have hL1 : L.At R1 := hL.congr fun z hz => fr z (fun h => c4 z hz h)
        have hlo1 : BT.Lo R1 x kx vx k v := hlo.congr (fr x b1) (fr kx b2) (fr vx b3)
        have nr' : (l'.hs ++ [y, ky, vy]).Nodup := by rw [o4]; exact nT
        obtain ⟨n1, n2, n3⟩ := List.nodup_append.1 nr'
        have hnJ : (BT.node x kx vx 0 k v L l').hs.Nodup := BT.node_nodup.2 ⟨nL, n1, ⟨a1, a2, a3⟩, ⟨fun h => b1 (hl'T x h), fun h => b2 (hl'T kx h), fun h => b3 (hl'T vx h)⟩, ⟨c1, c2, c3⟩, fun z hz hz' => c4 z hz (hl'T z hz')⟩
        have sz : L.size + l'.size ≤ 100 := by
          have h1 := congrArg List.length o5
          simp only [List.length_append, BT.nodes_len] at h1
          omega
        obtain ⟨t', R2, g2, p1, p2, p3, p4⟩ := cutJ_bt h01 hL1 o1 hk.left o3 hlo1 hnJ sz
        rw [g2]
        have fr2 : ∀ z, z ∉ L.hs → z ≠ x → z ∉ l'.hs → R2 z = R1 z := fun z h1 h2 h3 => p4 z (by
          simp only [BT.nodes, List.mem_append, List.mem_cons, not_or]
          exact ⟨fun h => h1 (BT.nodes_hs L z h), h2, fun h => h3 (BT.nodes_hs l' z h)⟩)
        have frY : ∀ z ∈ [y, ky, vy], R2 z = R1 z := fun z hz => fr2 z (fun h => c4 z h (hyT z hz)) (fun e => b1 (e ▸ hyT z hz)) (fun h => n3 z h z hz rfl)
        refine ⟨t', y, ky, vy, k', v', R2, rfl, p1, o2.congr (frY y (by simp)) (frY ky (by simp)) (frY vy (by simp)), p3, ?_, ?_, ?_, fun z hz => ?_⟩
        · rw [p2.hs]; simp only [BT.hs]; rw [← o4]; simp only [List.append_assoc, List.cons_append]
        · rw [p2.nodes]; simp only [BT.nodes]; rw [← o5]; simp only [List.append_assoc, List.cons_append]
        · rw [p2.prs]; simp only [BT.prs]; rw [← o6]; simp only [List.append_assoc, List.cons_append]
        · simp only [BT.nodes, List.mem_append, List.mem_cons, not_or] at hz
          refine (p4 z ?_).trans (o7 z hz.2.2)
          simp only [BT.nodes, List.mem_append, List.mem_cons, not_or]
          refine ⟨hz.1, hz.2.1, fun h => hz.2.2 ?_⟩
          rw [← o5]; simp [h]
theorem cutC_bt {l r : BT} (h0 : R 0 = none) (hl : l.At R) (hr : r.At R) (al : BT.Kd rd l) (ar : BT.Kd rd r) (hn : (l.hs ++ r.hs).Nodup) (sz : l.size + r.size ≤ 100) :
    ∃ (t : BT) (R' : Nat → Option (List Nat)), cutC rd R l.root r.root = (R', t.root) ∧ t.At R' ∧ BT.Kd rd t ∧ t.hs = l.hs ++ r.hs ∧ t.nodes = l.nodes ++ r.nodes ∧ t.prs = l.prs ++ r.prs ∧ (∀ z, z ∉ l.nodes ++ r.nodes → R' z = R z) := by
  unfold cutC
  by_cases hln : l = .nil
  · subst hln
    rw [if_pos (show BT.nil.root = 0 from rfl)]
    exact ⟨r, R, rfl, hr, ar, rfl, rfl, rfl, fun _ _ => rfl⟩
  · rw [if_neg (hl.root_nz hln)]
    obtain ⟨n1, n2, n3⟩ := List.nodup_append.1 hn
    have hh := BT.hgt_le l
    obtain ⟨l', y, ky, vy, k', v', R1, g1, o1, o2, o3, o4, o5, o6, o7⟩ := cutL_bt (rd := rd) 200 l R h0 hl hln al n1 (by omega) (by omega)
    rw [g1]
    simp only
    have fr : ∀ z, z ∉ l.hs → R1 z = R z := fun z hz => o7 z (fun h => hz (BT.nodes_hs l z h))
    have h01 : R1 0 = none := (o7 0 (BT.nodes_zero h0 hl)).trans h0
    have hr1 : r.At R1 := hr.congr fun z hz => fr z (fun h => n3 z h z hz rfl)
    have hl'l : ∀ z ∈ l'.hs, z ∈ l.hs := fun z hz => by rw [← o4]; simp [hz]
    have hyl : ∀ z ∈ [y, ky, vy], z ∈ l.hs := fun z hz => by rw [← o4]; exact List.mem_append.2 (.inr hz)
    have nr' : (l'.hs ++ [y, ky, vy]).Nodup := by rw [o4]; exact n1
    obtain ⟨m1, m2, m3⟩ := List.nodup_append.1 nr'
    simp only [List.nodup_cons, List.mem_cons, List.not_mem_nil, or_false, not_or, not_false_eq_true, List.nodup_nil, and_true] at m2
    have hnJ : (BT.node y ky vy 0 k' v' l' r).hs.Nodup := BT.node_nodup.2 ⟨m1, n2, ⟨fun h => m3 y h y (by simp) rfl, fun h => m3 ky h ky (by simp) rfl, fun h => m3 vy h vy (by simp) rfl⟩,
      ⟨fun h => n3 y (hyl y (by simp)) y h rfl, fun h => n3 ky (hyl ky (by simp)) ky h rfl, fun h => n3 vy (hyl vy (by simp)) vy h rfl⟩, ⟨m2.1.1, m2.1.2, m2.2⟩, fun z hz hz' => n3 z (hl'l z hz) z hz' rfl⟩
    have sz' : l'.size + r.size ≤ 100 := by
      have h1 := congrArg List.length o5
      simp only [List.length_append, BT.nodes_len] at h1
      omega
    obtain ⟨t', R2, g2, p1, p2, p3, p4⟩ := cutJ_bt h01 o1 hr1 o3 ar o2 hnJ sz'
    refine ⟨t', R2, g2, p1, p3, ?_, ?_, ?_, fun z hz => ?_⟩
    · rw [p2.hs]; simp only [BT.hs]; rw [← o4]; simp only [List.append_assoc, List.cons_append, List.nil_append]
    · rw [p2.nodes]; simp only [BT.nodes]; rw [← o5]; simp only [List.append_assoc, List.cons_append, List.nil_append]
    · rw [p2.prs]; simp only [BT.prs]; rw [← o6]; simp only [List.append_assoc, List.cons_append, List.nil_append]
    · simp only [List.mem_append, not_or] at hz
      refine (p4 z ?_).trans (o7 z hz.1)
      simp only [BT.nodes, List.mem_append, List.mem_cons, not_or]
      refine ⟨fun h => hz.1 ?_, fun e => hz.1 ?_, hz.2⟩
      · rw [← o5]; simp [h]
      · rw [← o5]; simp [e]
end
end Go.Proofs.YtijpmjaeanocpaaGreatDoor

set_option linter.unusedVariables false
set_option linter.unusedSimpArgs false
namespace Go.Proofs.YtijpmjaeanocpaaGreatDoor
open Go.RowKit Go.Shelf
def Box (W : World) (b : Nat) (t : TypeId) (vs : List Value) : Prop := W.rowIs b t vs.length (fun i => vs[i]?.getD undef)
theorem Box.new (W : World) (t : TypeId) (vs : List Value) : Box (W.alloc (Obj.cells vs.toArray t)) W.heap.size t vs := by
  have := World.rowIs_alloc W vs.toArray t (fun i => vs[i]?.getD undef) (fun i hi => by
    simp only [List.size_toArray] at hi
    rw [List.getElem?_toArray, List.getElem?_eq_getElem hi]
    rfl)
  rw [List.size_toArray] at this
  exact this
section
variable {W W' : World} {b : Nat} {t : TypeId} {vs : List Value}
theorem Box.lt (h : Box W b t vs) : b < W.heap.size := by
  obtain ⟨c, h1, _⟩ := h
  exact (Array.getElem?_eq_some_iff.1 h1).1
theorem Box.block (h : Box W b t vs) (hk : W'.heap[b]? = W.heap[b]?) : Box W' b t vs := rowIs_keep h hk
theorem Box.below (h : Box W b t vs) (hb : Below W.heap.size W W') : Box W' b t vs := h.block (hb.block b h.lt)
theorem Box.turn {F F' : Nat → Prop} (h : Box W b t vs) (ht : Turn W F W' F') (hF : ¬ F b) : Box W' b t vs := h.block (ht.keep b h.lt hF)
theorem Box.at' (h : Box W b t vs) {i : Nat} {v : Value} (hi : vs[i]? = some v) : W.cell? ⟨b, i, none⟩ = some v := by
  have hl : i < vs.length := (List.getElem?_eq_some_iff.1 hi).1
  have := h.cell hl
  simp only [hi, Option.getD_some] at this
  exact this
theorem Box.free (h : Box W b t vs) (i : Nat) : W.frozen? ⟨b, i, none⟩ = false := h.frozen i
theorem Box.set (h : Box W b t vs) (i : Nat) (v : Value) : Box (W.setCell ⟨b, i, none⟩ v) b t (vs.set i v) := by
  have h1 := World.rowIs.set h i v
  unfold Box
  rw [List.length_set]
  refine h1.congr fun j hj => ?_
  by_cases e : j = i
  · subst e
    simp only [if_true]
    rw [List.getElem?_set_self hj]
    rfl
  · simp only [if_neg e]
    rw [List.getElem?_set_ne (fun e' => e e'.symm)]
theorem Box.other (h : Box W b t vs) {p : Addr} (hp : b ≠ p.block) (v : Value) : Box (W.setCell p v) b t vs := World.rowIs.setOther h hp v
end
theorem below_seven {w W : World} {m b : Nat} (h : Below m w W) (hb : m ≤ b) (v0 v1 v2 v3 v4 v5 v6 : Value) : Below m w (((((((W.setCell ⟨b, 0, none⟩ v0).setCell ⟨b, 1, none⟩ v1).setCell ⟨b, 2, none⟩ v2).setCell ⟨b, 3, none⟩ v3).setCell ⟨b, 4, none⟩ v4).setCell ⟨b, 5, none⟩ v5).setCell ⟨b, 6, none⟩ v6) := (((((((h.setCell (p := ⟨b, 0, none⟩) hb v0).setCell (p := ⟨b, 1, none⟩) hb v1).setCell (p := ⟨b, 2, none⟩) hb v2).setCell (p := ⟨b, 3, none⟩) hb v3).setCell (p := ⟨b, 4, none⟩) hb v4).setCell (p := ⟨b, 5, none⟩) hb v5).setCell (p := ⟨b, 6, none⟩) hb v6)
theorem below_six {w W : World} {m b : Nat} (h : Below m w W) (hb : m ≤ b) (v0 v1 v2 v3 v4 v5 : Value) : Below m w ((((((W.setCell ⟨b, 0, none⟩ v0).setCell ⟨b, 1, none⟩ v1).setCell ⟨b, 2, none⟩ v2).setCell ⟨b, 3, none⟩ v3).setCell ⟨b, 4, none⟩ v4).setCell ⟨b, 5, none⟩ v5) := ((((((h.setCell (p := ⟨b, 0, none⟩) hb v0).setCell (p := ⟨b, 1, none⟩) hb v1).setCell (p := ⟨b, 2, none⟩) hb v2).setCell (p := ⟨b, 3, none⟩) hb v3).setCell (p := ⟨b, 4, none⟩) hb v4).setCell (p := ⟨b, 5, none⟩) hb v5)
theorem Box.alloc {W : World} {b : Nat} {t : TypeId} {vs : List Value} (h : Box W b t vs) (o : Obj) : Box (W.alloc o) b t vs := h.below ((Below.refl _ W).alloc (Nat.le_refl _) o)
theorem Box.seven {W : World} {b : Nat} {t : TypeId} {u0 u1 u2 u3 u4 u5 u6 : Value} (h : Box W b t [u0, u1, u2, u3, u4, u5, u6]) (v0 v1 v2 v3 v4 v5 v6 : Value) : Box (((((((W.setCell ⟨b, 0, none⟩ v0).setCell ⟨b, 1, none⟩ v1).setCell ⟨b, 2, none⟩ v2).setCell ⟨b, 3, none⟩ v3).setCell ⟨b, 4, none⟩ v4).setCell ⟨b, 5, none⟩ v5).setCell ⟨b, 6, none⟩ v6) b t [v0, v1, v2, v3, v4, v5, v6] := (((((((h.set 0 v0).set 1 v1).set 2 v2).set 3 v3).set 4 v4).set 5 v5).set 6 v6)
theorem Box.six {W : World} {b : Nat} {t : TypeId} {u0 u1 u2 u3 u4 u5 : Value} (h : Box W b t [u0, u1, u2, u3, u4, u5]) (v0 v1 v2 v3 v4 v5 : Value) : Box ((((((W.setCell ⟨b, 0, none⟩ v0).setCell ⟨b, 1, none⟩ v1).setCell ⟨b, 2, none⟩ v2).setCell ⟨b, 3, none⟩ v3).setCell ⟨b, 4, none⟩ v4).setCell ⟨b, 5, none⟩ v5) b t [v0, v1, v2, v3, v4, v5] := ((((((h.set 0 v0).set 1 v1).set 2 v2).set 3 v3).set 4 v4).set 5 v5)
theorem nput_any {w : World} {s : Nat} {F : Nat → Prop} {R : Nat → Option (List Nat)} {H : List Nat} {P q most last G : Nat} (h : StoreIs w s F R H P q most last G) (x : Nat) (hx : x < 18446744073709551616) (nd : Nd) (hok : nd.Ok) :
    Calls Tryz.prog 122 #[.pointer (some ⟨s, 0, none⟩), .int .u64 (x : Nat), nd.v] w fun e w' => e = .returned (.int .i64 (nodeE R x : Nat)) ∧ StoreIs w' s F (if nodeE R x = 0 then updR R x (some nd.ws) else R) H P q most last G ∧ Turn w F w' F := by
  by_cases h0 : nodeE R x = 0
  · obtain ⟨o, ho⟩ := nodeE_zero.1 h0
    have hR := nodeR_some ho
    have := nput_at h hR rfl nd hok
    rw [if_pos h0, h0]
    exact this
  · obtain ⟨n, hrd, _⟩ := h.rd
    rw [if_neg h0]
    obtain ⟨z, hz⟩ : ∃ z, nodeE R x = z := ⟨_, rfl⟩
    rw [hz] at h0
    have hA := fun w' (hb : Below w.heap.size w w') => asked_at (hrd.below hb) x hx
    rw [hz] at hA ⊢
    have hAH := Lib.hid hA
    have hz9 : z < 10 := by rw [← hz]; unfold nodeE; split <;> (try split) <;> omega
    have d : ((z : Int) != 0) = true := by simp; omega
    have hH := Lib.hid h
    clear h hrd hA hz
    unfold Nd.v
    go_enter Tryz.func122, Tryz.ntmps122
    go_wp2_with fail
    have hb0 : Below w.heap.size w (w.alloc (Obj.cells #[Value.int IntKind.u64 (nd.key : Nat), Value.int IntKind.u64 (nd.val : Nat), Value.int IntKind.u64 (nd.left : Nat), Value.int IntKind.u64 (nd.right : Nat), Value.int IntKind.u64 (nd.mark : Nat), Value.int IntKind.u64 (nd.size : Nat)] 118)) := (Below.refl _ w).alloc (Nat.le_refl _) _
    have hb0H := Lib.hid hb0
    refine (hAH.out _ hb0).mono ?_
    rintro e w1 ⟨rfl, rfl⟩
    clear hb0
    go_wp2
    go_ret
    exact ⟨rfl, hH.out.below hb0H.out, Turn.below hb0H.out⟩
end Go.Proofs.YtijpmjaeanocpaaGreatDoor

set_option linter.unusedVariables false
set_option linter.unusedSimpArgs false
namespace Go.Proofs.YtijpmjaeanocpaaGreatDoor
open Go Go.RowKit
section
variable {P : Program} {ops : Array Oper} {md : Region.Mode} {Q : Exit → Act → World → Prop} {C : World → Prop}
def YieldsW (P : Program) (ops : Array Oper) (C : World → Prop) (o : Oper) (v : Value) (a : Act) : Prop :=
  Region.wanted o (yielded ops a.tmps) = true ∧ ∀ w, C w → (execOp a.eval o).run P w = .ok (.value v) w
theorem YieldsW.of_same {o : Oper} {v : Value} {a a' : Act} (hy : YieldsW P ops C o v a) (he : execOp a'.eval o = execOp a.eval o)
    (hw : Region.wanted o (yielded ops a'.tmps) = Region.wanted o (yielded ops a.tmps)) : YieldsW P ops C o v a' :=
  ⟨hw.trans hy.1, fun w hc => by rw [he]; exact hy.2 w hc⟩
theorem YieldsW.op {i : Nat} {o : Oper} {v : Value} {a : Act} (hi : ops[i]? = some o) (hy : YieldsW P ops C o v a) {K : Act → World → Prop} {w : World} (hc : C w) (h : K (a.put o.dst v) w) : wpOp P ops Q i K a w := by
  unfold wpOp
  simp only [hi]
  rw [if_pos hy.1]
  refine .inl ?_
  unfold Oper.wp
  rw [hy.2 w hc]
  exact h
theorem wpOp_putW {j : Nat} {oi oj : Oper} {v : Value} (hj : ops[j]? = some oj) (hap : oi.apart ops oj = true)
    (hsi : ∀ cs b, oi.op ≠ .select cs b) (hsj : ∀ cs b, oj.op ≠ .select cs b)
    (hQ : ∀ c a w, Q (.panic c) (a.put oi.dst v) w → Q (.panic c) a w) {K : Act → World → Prop} {a : Act} {w : World}
    (hy : YieldsW P ops C oi v a) (h : wpOp P ops Q j K (a.put oi.dst v) w) :
    wpOp P ops Q j (fun a' w' => YieldsW P ops C oi v a' ∧ K (a'.put oi.dst v) w') a w := by
  obtain ⟨h1, h2, h3⟩ := Oper.apart_spec hap
  have keep : ∀ (a : Act), YieldsW P ops C oi v a → ∀ u, YieldsW P ops C oi v (a.put oj.dst u) := fun a hy u =>
    hy.of_same (execOp_put oi hsi a oj.dst u h3) (wanted_put oi a oj.dst u h3)
  have keepD : ∀ d, YieldsW P ops C oi v { a with defers := d :: a.defers } := fun d => hy.of_same rfl rfl
  unfold wpOp at *
  simp only [hj] at *
  rw [wanted_put oj a oi.dst v h1] at h
  split
  · rename_i hw
    simp only [hw, if_true] at h
    rcases h with h | ⟨hasks, hlets⟩
    case inr => exact .inr ⟨by unfold Oper.asks at *; rw [execOp_put oj hsj a oi.dst v h1] at hasks; exact hasks, hlets⟩
    refine .inl ?_
    unfold Oper.wp at *
    rw [execOp_put oj hsj a oi.dst v h1] at h
    generalize (execOp a.eval oj).run P w = r at *
    cases r with
    | ok n w' =>
      cases n <;> simp only [Oper.upon] at h ⊢
      case value u => exact ⟨keep a hy u, by rw [← Act.put_comm a v u h2]; exact h⟩
      case skip => exact ⟨keep a hy _, by rw [← Act.put_comm a v undef h2]; exact h⟩
      case defer d =>
        refine ⟨keep _ (keepD d) _, ?_⟩
        rw [← Act.put_comm _ v undef h2, ← Act.put_defers]
        exact h
      case enter f args =>
        refine Calls.mono h fun e w'' he => ?_
        cases e with
        | returned u => exact ⟨keep a hy u, by rw [← Act.put_comm a v u h2]; exact he⟩
        | panicked c => exact hQ _ _ _ he
        | outgrown => exact he
      case row row args => exact Rows.mono h fun u w'' he => ⟨keep a hy u, by rw [← Act.put_comm a v u h2]; exact he⟩
    | halt x w' =>
      cases x <;> simp only [Oper.upon] at h ⊢
      case panic u => exact hQ _ _ _ h
  · rename_i hw
    simp only [hw] at h
    exact ⟨keep a hy _, by rw [← Act.put_comm a v undef h2]; exact h⟩
def wpAnyW (P : Program) (md : Region.Mode) (ops : Array Oper) (Q : Exit → Act → World → Prop) (C : World → Prop) : Nat → Array Bool → Act → World → Prop
  | 0, listed, a, w => Region.ready md ops listed = [] ∧ Q .normal a w
  | f + 1, listed, a, w =>
    (Region.ready md ops listed = [] → Q .normal a w) ∧
    ∀ i ∈ Region.ready md ops listed, wpOp P ops Q i (fun a' w' => C w' ∧ wpAnyW P md ops Q C f (listed.setIfInBounds i true) a' w') a w
theorem wpAnyW.any : ∀ (f : Nat) (listed : Array Bool) (a : Act) (w : World), wpAnyW P md ops Q C f listed a w → wpAny P md ops Q f listed a w
  | 0, _, _, _, h => h
  | f + 1, listed, a, w, h => ⟨h.1, fun i hi => wpOp_mono (fun a' w' h' => wpAnyW.any f _ a' w' h'.2) (h.2 i hi)⟩
theorem wpAnyW_first {i : Nat} {oi : Oper} {v : Value} (hi : ops[i]? = some oi) (hsel : ∀ (j : Nat) (o : Oper) cs b, ops[j]? = some o → o.op ≠ .select cs b)
    (hQ : ∀ c a w, Q (.panic c) (a.put oi.dst v) w → Q (.panic c) a w) :
    ∀ (f : Nat) (listed : Array Bool) (a : Act) (w : World),
      (∀ j oj, ops[j]? = some oj → j ≠ i → listed.getD j true = false → (∀ e ∈ oj.after, Region.binds md e = true → e.on ≠ i) → oi.apart ops oj = true) →
      i ∈ Region.ready md ops listed → YieldsW P ops C oi v a → C w →
      wpAnyW P md ops Q C f (listed.setIfInBounds i true) (a.put oi.dst v) w → wpAnyW P md ops Q C (f + 1) listed a w := by
  intro f
  induction f with
  | zero =>
    intro listed a w _ hr hy hC H
    refine ⟨fun h => (by rw [h] at hr; cases hr), fun j hj => ?_⟩
    by_cases hji : j = i
    · subst hji; exact hy.op hi hC ⟨hC, H⟩
    · have := ready_mono hj hji
      rw [H.1] at this
      cases this
  | succ f ih =>
    intro listed a w hfree hr hy hC H
    refine ⟨fun h => (by rw [h] at hr; cases hr), fun j hj => ?_⟩
    by_cases hji : j = i
    · subst hji; exact hy.op hi hC ⟨hC, H⟩
    · have h1 := H.2 j (ready_mono hj hji)
      obtain ⟨hjun, oj, hoj, hall⟩ := mem_ready.1 hj
      have hun := (mem_ready.1 hr).1
      have hnot : ∀ e ∈ oj.after, Region.binds md e = true → e.on ≠ i := fun e he hb heq => by
        have h1 := hall e he hb
        rw [heq, getD_both hun] at h1
        cases h1
      have h2 := wpOp_putW hoj (hfree j oj hoj hji hjun hnot) (fun cs b => hsel i oi cs b hi) (fun cs b => hsel j oj cs b hoj) hQ hy h1
      have hfree' : ∀ k ok, ops[k]? = some ok → k ≠ i → (listed.setIfInBounds j true).getD k true = false →
          (∀ e ∈ ok.after, Region.binds md e = true → e.on ≠ i) → oi.apart ops ok = true := fun k ok hk hki hun' hno => by
        refine hfree k ok hk hki ?_ hno
        by_cases hjk : j = k
        · subst hjk; exact hjun
        · rw [getD_set_ne true hjk] at hun'; exact hun'
      refine wpOp_mono (fun a' w' h3 => ?_) h2
      refine ⟨h3.2.1, ih (listed.setIfInBounds j true) a' w' hfree' (ready_mono hr (Ne.symm hji)) h3.1 h3.2.1 ?_⟩
      rw [Array.setIfInBounds_comm _ _ hji]
      exact h3.2.2
def rowB (md : Region.Mode) (ops : Array Oper) : List Nat → Array Bool → Bool
  | [], listed => (Region.ready md ops listed).isEmpty
  | k :: ks, listed => decide (Region.ready md ops listed = [k]) && rowB md ops ks (listed.setIfInBounds k true)
def headB (md : Region.Mode) (ops : Array Oper) (ks : List Nat) : List Nat → Array Bool → Bool
  | [], listed => rowB md ops ks listed
  | i :: is, listed => (Region.ready md ops listed).contains i && Region.free md ops listed i && headB md ops ks is (listed.setIfInBounds i true)
def Qr (K : Act → World → Prop) (Q : Exit → Act → World → Prop) : Exit → Act → World → Prop
  | .normal, a, w => K a w
  | e, a, w => Q e a w
def wpReads (P : Program) (ops : Array Oper) (C : World → Prop) (L : Act → Prop) : List Nat → Act → Prop
  | [], a => L a
  | i :: is, a => ∃ o v, ops[i]? = some o ∧ YieldsW P ops C o v a ∧ wpReads P ops C L is (a.put o.dst v)
def wpActs (P : Program) (ops : Array Oper) (Q : Exit → Act → World → Prop) (C : World → Prop) : List Nat → Act → World → Prop
  | [], a, w => Q .normal a w
  | k :: ks, a, w => ∃ o, ops[k]? = some o ∧ wpList P ops (Qr (fun a' w' => C w' ∧ wpActs P ops Q C ks a' w') Q) [o] a w
theorem wpReads_nil {L : Act → Prop} {a : Act} (h : L a) : wpReads P ops C L [] a := h
theorem wpReads_step {L : Act → Prop} {i : Nat} {is : List Nat} {a : Act} (o : Oper) (v : Value) (hi : ops[i]? = some o) (h1 : Region.wanted o (yielded ops a.tmps) = true) (h2 : ∀ w, C w → (execOp a.eval o).run P w = .ok (.value v) w) (h : wpReads P ops C L is (a.put o.dst v)) : wpReads P ops C L (i :: is) a :=
  ⟨o, v, hi, ⟨h1, h2⟩, h⟩
theorem wpActs_nil {a : Act} {w : World} (h : Q .normal a w) : wpActs P ops Q C [] a w := h
theorem wpActs_step {k : Nat} {ks : List Nat} {a : Act} {w : World} (o : Oper) (hk : ops[k]? = some o) (h : ∀ K : Act → World → Prop, (∀ a' w', C w' → wpActs P ops Q C ks a' w' → K a' w') → wpList P ops (Qr K Q) [o] a w) : wpActs P ops Q C (k :: ks) a w :=
  ⟨o, hk, h _ (fun _ _ h1 h2 => ⟨h1, h2⟩)⟩
theorem wp_post {o : Oper} {a : Act} {w : World} {K : Act → World → Prop} {Q' : Exit → Act → World → Prop} (hQ : ∀ c a w, Q' (.panic c) a w → Q (.panic c) a w) (hO : LetsOut Q' → LetsOut Q) (hh : o.wp P a w K Q') : o.wp P a w K Q := by
  unfold Oper.wp at *
  generalize (execOp a.eval o).run P w = r at *
  cases r with
  | ok x w' =>
    cases x <;> simp only [Oper.upon] at hh ⊢ <;>
      first
        | exact hh
        | exact Calls.mono hh (fun e w'' he => by cases e <;> first | exact he | exact hQ _ _ _ he | exact hO he)
  | halt x w' => cases x <;> simp only [Oper.upon] at hh ⊢ <;> first | exact hQ _ _ _ hh | exact hh
theorem wpOp_list {i : Nat} {o : Oper} {K : Act → World → Prop} {a : Act} {w : World} (hi : ops[i]? = some o) (h : wpList P ops (Qr K Q) [o] a w) : wpOp P ops Q i K a w := by
  unfold wpOp
  simp only [hi]
  unfold wpList at h
  split
  · rename_i hw
    rw [if_pos hw] at h
    rcases h with h | ⟨h1, h2⟩
    · exact .inl (wp_post (fun _ _ _ h => h) (fun h => h) h)
    · exact .inr ⟨h1, h2⟩
  · rename_i hw
    rw [if_neg hw] at h
    exact h
theorem wpAnyW_of_acts : ∀ (ks : List Nat) (listed : Array Bool) (a : Act) (w : World), rowB md ops ks listed = true → wpActs P ops Q C ks a w → wpAnyW P md ops Q C ks.length listed a w
  | [], listed, a, w, hB, h => ⟨by simpa [rowB] using hB, h⟩
  | k :: ks, listed, a, w, hB, h => by
    obtain ⟨o, h0, h⟩ := h
    simp only [rowB, Bool.and_eq_true, decide_eq_true_eq] at hB
    refine ⟨fun h1 => (by rw [hB.1] at h1; cases h1), fun i hi => ?_⟩
    rw [hB.1] at hi
    obtain rfl : i = k := by simpa using hi
    exact wpOp_mono (fun a' w' h' => ⟨h'.1, wpAnyW_of_acts ks _ a' w' hB.2 h'.2⟩) (wpOp_list h0 h)
theorem wpAnyW_of_reads {ks : List Nat} {w : World} (hsel : Region.noSelect ops = true) (hC : C w) (hQ : ∀ c a d v w, Q (.panic c) (Act.put a d v) w → Q (.panic c) a w) :
    ∀ (is : List Nat) (listed : Array Bool) (a : Act), headB md ops ks is listed = true → wpReads P ops C (fun a' => wpActs P ops Q C ks a' w) is a → wpAnyW P md ops Q C (is.length + ks.length) listed a w
  | [], listed, a, hB, h => by
    rw [List.length_nil, Nat.zero_add]
    exact wpAnyW_of_acts ks listed a w hB h
  | i :: is, listed, a, hB, h => by
    obtain ⟨o, v, h0, hy, hK⟩ := h
    simp only [headB, Bool.and_eq_true] at hB
    obtain ⟨⟨hr, hf⟩, hB'⟩ := hB
    rw [List.length_cons, show is.length + 1 + ks.length = (is.length + ks.length) + 1 by omega]
    exact wpAnyW_first h0 (Region.noSelect_spec hsel) (fun c a w h => hQ c a _ _ w h) (is.length + ks.length) listed a w (Region.free_spec h0 hf) (by simpa using hr) hy hC
      (wpAnyW_of_reads hsel hC hQ is _ _ hB' hK)
theorem wp_region_row {id : Nat} {a : Act} {w : World} {l : List Oper} (C : World → Prop) (is ks : List Nat) (hm : P.follows .mixedOrders = true) (hsel : Region.noSelect l.toArray = true) (hlen : is.length + ks.length = l.length)
    (hB : headB .any l.toArray ks is (Array.replicate l.toArray.size false) = true) (hC : C { w with drawn := w.drawn + 1 }) (hQ : ∀ c a d v w, Q (.panic c) (Act.put a d v) w → Q (.panic c) a w)
    (h : wpReads P l.toArray C (fun a' => wpActs P l.toArray Q C ks a' { w with drawn := w.drawn + 1 }) is a) : (Code.region id l.toArray true).wp P Q a w := by
  refine wp_region_any hm (wpAnyW.any (C := C) _ _ _ _ ?_)
  have := wpAnyW_of_reads (md := .any) hsel hC hQ is (Array.replicate l.toArray.size false) a hB h
  rw [hlen] at this
  simpa using this
end
end Go.Proofs.YtijpmjaeanocpaaGreatDoor

set_option linter.unusedVariables false
set_option linter.unusedSimpArgs false
namespace Go.Proofs.YtijpmjaeanocpaaGreatDoor
open Go.RowKit Go.Shelf
section
variable {w w' : World} {s N : Nat} {R : Nat → Option (List Nat)} {n : Nat}
set_option maxRecDepth 100000 in
theorem avHeight_at (h : Rd N w s R n) (x : Nat) (hx : x < 18446744073709551616) : Calls Tryz.prog 212 #[.pointer (some ⟨s, 0, none⟩), .int .u64 (x : Nat)] w fun e w' => e = .returned (.int .i64 (avH R x)) ∧ Below w.heap.size w w' := by
  obtain ⟨nd, hnd⟩ : ∃ nd, nodeG R x = nd := ⟨_, rfl⟩
  obtain ⟨z, hz⟩ : ∃ z, nodeE R x = z := ⟨_, rfl⟩
  have hG := Lib.hid (nget_lit h x hx nd hnd z hz)
  have hz1 : z < 10 := hz ▸ nodeE_lt R x
  have hok := h.nodeG x
  rw [hnd] at hok
  have hsz := hok.mark
  have hv : Hid (avH R x = wrap64 nd.mark) := Lib.hid (by unfold avH; rw [hnd])
  by_cases hz0 : z = 0
  · subst hz0
    clear h hnd hz hok
    go_enter Tryz.func212, Tryz.ntmps212
    go_wp2_with fail
    refine hG.out.mono ?_
    rintro e w1 ⟨rfl, hb⟩
    have hbH := Lib.hid hb
    have hz1 := hb.size
    clear hb
    go_wp2
    go_ret
    exact ⟨by rw [hv.out]; rfl, hbH.out.alloc hz1 _⟩
  · have d : ((z : Int) != 0) = true := by simp; omega
    have hnz : nd = Nd.zero := by rw [← hnd]; exact nodeG_err (by rw [hz]; exact hz0)
    subst hnz
    have hv2 : Hid (avH R x = 0) := Lib.hid (by rw [hv.out]; show wrap64 ((0 : Nat) : Int) = 0; exact IntWalk.wrap64_in 0 (by omega))
    clear h hnd hz hok
    go_enter Tryz.func212, Tryz.ntmps212
    go_wp2_with fail
    refine hG.out.mono ?_
    rintro e w1 ⟨rfl, hb⟩
    have hbH := Lib.hid hb
    have hz1 := hb.size
    clear hb
    go_wp2
    go_ret
    exact ⟨by rw [hv2.out]; rfl, hbH.out.alloc hz1 _⟩
theorem wrapU (z : Int) : IntKind.u64.wrap z = ((toU z : Nat) : Int) := by
  have h1 := Int.emod_nonneg z (show (18446744073709551616 : Int) ≠ 0 by omega)
  unfold toU
  rw [Int.toNat_of_nonneg h1]
  rfl
def treeV (nd : Nd) (x : Nat) : Value := .agg #[.int .u64 (nd.key : Nat), .int .u64 (nd.val : Nat), .int .u64 (nd.left : Nat), .int .u64 (nd.right : Nat), .int .u64 (nd.mark : Nat), .int .u64 (nd.size : Nat), .int .u64 (x : Nat)]
set_option maxHeartbeats 1000000 in
set_option maxRecDepth 100000 in
theorem avGet_at (h : Rd N w s R n) (x : Nat) (hx : x < 18446744073709551616) : Calls Tryz.prog 210 #[.pointer (some ⟨s, 0, none⟩), .int .u64 (x : Nat)] w fun e w' => e = .returned (treeV (nodeG R x) x) ∧ Below w.heap.size w w' := by
  obtain ⟨nd, hnd⟩ : ∃ nd, nodeG R x = nd := ⟨_, rfl⟩
  obtain ⟨z, hz⟩ : ∃ z, nodeE R x = z := ⟨_, rfl⟩
  have hG := Lib.hid (fun w' (hb : Below w.heap.size w w') => nget_lit (h.below hb) x hx nd hnd z hz)
  rw [hnd]
  clear h hnd hz
  unfold treeV
  go_enter Tryz.func210, Tryz.ntmps210
  go_wp2_with fail
  obtain ⟨W0, hW0⟩ : ∃ W0, W0 = w.alloc (Obj.cells #[.int .u64 0, .int .u64 0, .int .u64 0, .int .u64 0, .int .u64 0, .int .u64 0, .int .u64 0] 296) := ⟨_, rfl⟩
  rw [← hW0]
  have hb0 : Below w.heap.size w W0 := by rw [hW0]; exact (Below.refl _ w).alloc (Nat.le_refl _) _
  have hbx0 : Box W0 w.heap.size 296 [.int .u64 0, .int .u64 0, .int .u64 0, .int .u64 0, .int .u64 0, .int .u64 0, .int .u64 0] := by
    rw [hW0]
    exact Box.new w 296 [.int .u64 0, .int .u64 0, .int .u64 0, .int .u64 0, .int .u64 0, .int .u64 0, .int .u64 0]
  have hb0H := Lib.hid hb0
  have hbx0H := Lib.hid hbx0
  clear hb0 hbx0 hW0
  refine (hG.out _ hb0H.out).mono ?_
  rintro e w1 ⟨rfl, hb1⟩
  have hb1H := Lib.hid (hb0H.out.trans (hb1.mono hb0H.out.size))
  have hbx1 := hbx0H.out.below hb1
  have c0 := hbx1.at' (i := 0) rfl
  have c1 := hbx1.at' (i := 1) rfl
  have c2 := hbx1.at' (i := 2) rfl
  have c3 := hbx1.at' (i := 3) rfl
  have c4 := hbx1.at' (i := 4) rfl
  have c5 := hbx1.at' (i := 5) rfl
  have c6 := hbx1.at' (i := 6) rfl
  have hbx1H := Lib.hid hbx1
  have f0 := hbx1.free 0
  have f1 := hbx1.free 1
  have f2 := hbx1.free 2
  have f3 := hbx1.free 3
  have f4 := hbx1.free 4
  have f5 := hbx1.free 5
  have f6 := hbx1.free 6
  have hz1 : w.heap.size ≤ w1.heap.size := hb1H.out.size
  have hl1 : w.heap.size < w1.heap.size := hbx1.lt
  clear hb1 hbx1 hG
  go_wp2
  refine bodyPost_ret (v := treeV nd x) ?_ rfl ⟨rfl, (below_seven hb1H.out (Nat.le_refl _) _ _ _ _ _ _ _).alloc (by simp; exact hz1) _⟩
  have hB := (hbx1H.out.seven (.int .u64 (nd.key : Nat)) (.int .u64 (nd.val : Nat)) (.int .u64 (nd.left : Nat)) (.int .u64 (nd.right : Nat)) (.int .u64 (nd.mark : Nat)) (.int .u64 (nd.size : Nat)) (.int .u64 (x : Nat))).alloc (Obj.cells #[Value.int IntKind.u64 (nd.key : Nat), Value.int IntKind.u64 (nd.val : Nat), Value.int IntKind.u64 (nd.left : Nat), Value.int IntKind.u64 (nd.right : Nat), Value.int IntKind.u64 (nd.mark : Nat), Value.int IntKind.u64 (nd.size : Nat)] 118)
  have k0 := hB.at' (i := 0) rfl
  have k1 := hB.at' (i := 1) rfl
  have k2 := hB.at' (i := 2) rfl
  have k3 := hB.at' (i := 3) rfl
  have k4 := hB.at' (i := 4) rfl
  have k5 := hB.at' (i := 5) rfl
  have k6 := hB.at' (i := 6) rfl
  clear hB c0 c1 c2 c3 c4 c5 c6 f0 f1 f2 f3 f4 f5 f6
  simp [results, Tryz.f210, go_sem, treeV, k0, k1, k2, k3, k4, k5, k6]
section
variable {F : Nat → Prop} {H : List Nat} {P q most last G : Nat}
set_option maxHeartbeats 2000000 in
set_option maxRecDepth 100000 in
theorem with_at (h : StoreIs w s F R H P q most last G) (nd : Nd) (hok : nd.Ok) (x l r : Nat) (hx : x < 18446744073709551616) (hl : l < 18446744073709551616) (hr : r < 18446744073709551616) :
    Calls Tryz.prog 234 #[treeV nd x, .pointer (some ⟨s, 0, none⟩), .int .u64 (l : Nat), .int .u64 (r : Nat)] w fun e w' => e = .returned (.int .u64 (x : Nat)) ∧ StoreIs w' s F (withR R nd x l r) H P q most last G ∧ Turn w F w' F := by
  obtain ⟨n, hrd, _⟩ := h.rd
  have hHs := Lib.hid h
  have hRd := Lib.hid hrd
  have hok0 := Lib.hid hok
  obtain ⟨W1, hW1⟩ : ∃ W1, W1 = w.alloc (Obj.cells #[.int .u64 (nd.key : Nat), .int .u64 (nd.val : Nat), .int .u64 (l : Nat), .int .u64 (r : Nat), .int .u64 (nd.mark : Nat), .int .u64 (nd.size : Nat), .int .u64 (x : Nat)] 296) := ⟨_, rfl⟩
  have hbx1 : Box W1 w.heap.size 296 [.int .u64 (nd.key : Nat), .int .u64 (nd.val : Nat), .int .u64 (l : Nat), .int .u64 (r : Nat), .int .u64 (nd.mark : Nat), .int .u64 (nd.size : Nat), .int .u64 (x : Nat)] := by
    rw [hW1]
    exact Box.new w 296 [.int .u64 (nd.key : Nat), .int .u64 (nd.val : Nat), .int .u64 (l : Nat), .int .u64 (r : Nat), .int .u64 (nd.mark : Nat), .int .u64 (nd.size : Nat), .int .u64 (x : Nat)]
  have hb1 : Below w.heap.size w W1 := by
    rw [hW1]
    exact (Below.refl _ w).alloc (Nat.le_refl _) _
  have hFb : ¬ F w.heap.size := fun hf => by have := h.lt hf; omega
  have hA1 := Lib.hid (fun W (hb : Below w.heap.size w W) => avHeight_at (hrd.below hb) l hl)
  have hA2 := Lib.hid (fun W (hb : Below w.heap.size w W) => avHeight_at (hrd.below hb) r hr)
  have hB1 := Lib.hid (fun W (hb : Below w.heap.size w W) => size_at (hrd.below hb) l hl)
  have hB2 := Lib.hid (fun W (hb : Below w.heap.size w W) => size_at (hrd.below hb) r hr)
  have hbx1H := Lib.hid hbx1
  have hb1H := Lib.hid hb1
  have hW1H := Lib.hid hW1
  clear h hrd hok hbx1 hb1 hW1
  unfold treeV
  go_enter Tryz.func234, Tryz.ntmps234
  go_wp2_with fail
  rw [← hW1H.out]
  refine (hA1.out _ hb1H.out).mono ?_
  rintro e w2 ⟨rfl, hb2⟩
  have hb2H := Lib.hid (hb1H.out.trans (hb2.mono hb1H.out.size))
  have hbx2H := Lib.hid (hbx1H.out.below hb2)
  clear hb2
  go_wp2_with fail
  refine (hA2.out _ hb2H.out).mono ?_
  rintro e w3 ⟨rfl, hb3⟩
  have hb3H := Lib.hid (hb2H.out.trans (hb3.mono hb2H.out.size))
  have hbx3 := hbx2H.out.below hb3
  have hbx3H := Lib.hid hbx3
  have c4 := hbx3.at' (i := 4) rfl
  have f4 := hbx3.free 4
  clear hb3 hbx3
  go_wp2_with fail
  rw [wrapU]
  obtain ⟨mk, hmk⟩ : ∃ mk, mk = toU (wrap64 (max (avH R l) (avH R r) + 1)) := ⟨_, rfl⟩
  rw [← hmk]
  have hmkl : mk < 18446744073709551616 := hmk ▸ toU_lt _
  have hmkH := Lib.hid hmk
  clear c4 f4 hmk
  obtain ⟨W4, hW4⟩ : ∃ W4, W4 = w3.setCell ⟨w.heap.size, 4, none⟩ (.int .u64 (mk : Nat)) := ⟨_, rfl⟩
  have hbx4H : Hid (Box W4 w.heap.size 296 [.int .u64 (nd.key : Nat), .int .u64 (nd.val : Nat), .int .u64 (l : Nat), .int .u64 (r : Nat), .int .u64 (mk : Nat), .int .u64 (nd.size : Nat), .int .u64 (x : Nat)]) := Lib.hid (by rw [hW4]; exact hbx3H.out.set 4 _)
  have hb4H : Hid (Below w.heap.size w W4) := Lib.hid (by rw [hW4]; exact hb3H.out.setCell (p := ⟨w.heap.size, 4, none⟩) (Nat.le_refl _) _)
  rw [← hW4]
  clear hW4
  refine (hB1.out _ hb4H.out).mono ?_
  rintro e w5 ⟨rfl, hb5⟩
  have hb5H := Lib.hid (hb4H.out.trans (hb5.mono hb4H.out.size))
  have hbx5H := Lib.hid (hbx4H.out.below hb5)
  clear hb5
  go_wp2_with fail
  refine (hB2.out _ hb5H.out).mono ?_
  rintro e w6 ⟨rfl, hb6⟩
  have hb6H := Lib.hid (hb5H.out.trans (hb6.mono hb5H.out.size))
  have hbx6 := hbx5H.out.below hb6
  have hbx6H := Lib.hid hbx6
  have c5 := hbx6.at' (i := 5) rfl
  have f5 := hbx6.free 5
  have c0 := hbx6.at' (i := 0) rfl
  have c1 := hbx6.at' (i := 1) rfl
  have c2 := hbx6.at' (i := 2) rfl
  have c3 := hbx6.at' (i := 3) rfl
  have c4 := hbx6.at' (i := 4) rfl
  have c6 := hbx6.at' (i := 6) rfl
  clear hb6 hbx6
  go_wp2_with fail
  rw [wrapU]
  obtain ⟨sz, hsz⟩ : ∃ sz, sz = toU (wrap64 (wrap64 (tsizeR R l + tsizeR R r) + 1)) := ⟨_, rfl⟩
  rw [← hsz]
  have hszl : sz < 18446744073709551616 := hsz ▸ toU_lt _
  have hwn : Hid (withN R nd l r = ⟨nd.key, nd.val, l, r, mk, sz⟩) := Lib.hid (by unfold withN; rw [hmkH.out, hsz])
  clear hsz c0 c1 c2 c3 c4 c5 c6 f5
  obtain ⟨W7, hW7⟩ : ∃ W7, W7 = w6.setCell ⟨w.heap.size, 5, none⟩ (.int .u64 (sz : Nat)) := ⟨_, rfl⟩
  have hbx7H : Hid (Box W7 w.heap.size 296 [.int .u64 (nd.key : Nat), .int .u64 (nd.val : Nat), .int .u64 (l : Nat), .int .u64 (r : Nat), .int .u64 (mk : Nat), .int .u64 (sz : Nat), .int .u64 (x : Nat)]) := Lib.hid (by rw [hW7]; exact hbx6H.out.set 5 _)
  have hb7H : Hid (Below w.heap.size w W7) := Lib.hid (by rw [hW7]; exact hb6H.out.setCell (p := ⟨w.heap.size, 5, none⟩) (Nat.le_refl _) _)
  rw [← hW7]
  clear hW7
  have hPut := nput_any (hHs.out.below hb7H.out) x hx ⟨nd.key, nd.val, l, r, mk, sz⟩ ⟨hok0.out.key, hok0.out.val, hl, hr, hmkl, hszl⟩
  unfold Nd.v at hPut
  have hPutH := Lib.hid hPut
  clear hPut
  refine hPutH.out.mono ?_
  rintro e w8 ⟨rfl, hS8, hT8⟩
  have hbx8 := hbx7H.out.turn hT8 hFb
  have c6 := hbx8.at' (i := 6) rfl
  have hS8H : Hid (StoreIs w8 s F (withR R nd x l r) H P q most last G) := Lib.hid (by
    unfold withR putN
    rw [hwn.out]
    exact hS8)
  have hT8H := Lib.hid ((Turn.below (F := F) hb7H.out).trans hT8)
  clear hS8 hT8 hbx8 hPutH
  go_wp2
  go_ret
  exact ⟨rfl, hS8H.out, hT8H.out⟩
end
end
end Go.Proofs.YtijpmjaeanocpaaGreatDoor

set_option linter.unusedVariables false
set_option linter.unusedSimpArgs false
namespace Go.Proofs.YtijpmjaeanocpaaGreatDoor
open Go.RowKit Go.Shelf
structure Kp (w : World) (F : Nat → Prop) where
  W : World
  F' : Nat → Prop
  h : Turn w F W F'
theorem Kp.cell {w : World} {F : Nat → Prop} {p : Addr} {v : Value} (hc : w.cell? p = some v) (hF : ¬ F p.block) (X : Kp w F) : X.W.cell? p = some v := X.h.cell hc hF
theorem Kp.start (w : World) (F : Nat → Prop) : ∃ X : Kp w F, { w with drawn := w.drawn + 1 } = X.W := ⟨⟨_, F, Turn.below (below_drawn w)⟩, rfl⟩
section
variable {w w' : World} {s : Nat} {F : Nat → Prop} {R : Nat → Option (List Nat)} {H : List Nat} {P q most last G : Nat}
set_option maxHeartbeats 2000000 in
set_option maxRecDepth 100000 in
theorem avLeft_at (h : StoreIs w s F R H P q most last G) (x : Nat) (hx : x < 18446744073709551616) :
    Calls Tryz.prog 263 #[.pointer (some ⟨s, 0, none⟩), .int .u64 (x : Nat)] w fun e w' => e = .returned (.int .u64 ((avLeft R x).2 : Nat)) ∧ StoreIs w' s F (avLeft R x).1 H P q most last G ∧ Turn w F w' F := by
  have hmo : Tryz.prog.follows .mixedOrders = true := by kernel_rfl
  obtain ⟨n, hrd, _⟩ := h.rd
  obtain ⟨t, ht⟩ : ∃ t, nodeG R x = t := ⟨_, rfl⟩
  obtain ⟨u, hu⟩ : ∃ u, nodeG R t.right = u := ⟨_, rfl⟩
  have hokt := hrd.nodeG x
  have hoku := hrd.nodeG t.right
  rw [ht] at hokt
  rw [hu] at hoku
  have hG1 := avGet_at hrd x hx
  have hG2 := fun W (hb : Below w.heap.size w W) => avGet_at (hrd.below hb) t.right hokt.right
  rw [ht] at hG1
  simp only [hu] at hG2
  unfold treeV at hG1 hG2
  have hG1H := Lib.hid hG1
  have hG2H := Lib.hid hG2
  have hHs := Lib.hid h
  have hv : Hid (avLeft R x = (withR (withR R t x t.left u.left) u t.right x u.right, t.right)) := Lib.hid (by unfold avLeft; rw [ht, hu])
  have hoktH := Lib.hid hokt
  have hokuH := Lib.hid hoku
  have hl1 := hokt.right
  have hFw : ∀ b, F b → b < w.heap.size := fun b hf => h.lt hf
  have hFwH := Lib.hid hFw
  clear h hrd hG1 hG2 ht hu hokt hoku hFw
  go_enter Tryz.func263, Tryz.ntmps263
  go_wp2_with fail
  refine hG1H.out.mono ?_
  rintro e w1 ⟨rfl, hb1⟩
  have hb1H := Lib.hid hb1
  have hz1 := hb1.size
  clear hb1
  go_wp2_with fail
  obtain ⟨W1, hW1⟩ : ∃ W1, W1 = w1.alloc (Obj.cells #[.int .u64 (t.key : Nat), .int .u64 (t.val : Nat), .int .u64 (t.left : Nat), .int .u64 (t.right : Nat), .int .u64 (t.mark : Nat), .int .u64 (t.size : Nat), .int .u64 (x : Nat)] 296) := ⟨_, rfl⟩
  obtain ⟨b1, hb1⟩ : ∃ b1, b1 = w1.heap.size := ⟨_, rfl⟩
  have hbx1 : Box W1 b1 296 [.int .u64 (t.key : Nat), .int .u64 (t.val : Nat), .int .u64 (t.left : Nat), .int .u64 (t.right : Nat), .int .u64 (t.mark : Nat), .int .u64 (t.size : Nat), .int .u64 (x : Nat)] := by rw [hW1, hb1]; exact Box.new w1 296 [.int .u64 (t.key : Nat), .int .u64 (t.val : Nat), .int .u64 (t.left : Nat), .int .u64 (t.right : Nat), .int .u64 (t.mark : Nat), .int .u64 (t.size : Nat), .int .u64 (x : Nat)]
  have hbW1 : Below w.heap.size w W1 := by rw [hW1]; exact hb1H.out.alloc hz1 _
  have hge1 : w.heap.size ≤ b1 := by omega
  rw [← hW1, ← hb1]
  have hbx1H := Lib.hid hbx1
  have hbW1H := Lib.hid hbW1
  clear hbx1 hbW1 hW1 hb1 hG1H hz1
  refine (hG2H.out _ hbW1H.out).mono ?_
  rintro e w2 ⟨rfl, hb2⟩
  have hb2H := Lib.hid (hbW1H.out.trans (hb2.mono hbW1H.out.size))
  have hbx2H := Lib.hid (hbx1H.out.below hb2)
  have hz2 := hb2H.out.size
  have hlt2 : b1 < w2.heap.size := hbx2H.out.lt
  clear hb2
  go_wp2_with fail
  obtain ⟨W2, hW2⟩ : ∃ W2, W2 = w2.alloc (Obj.cells #[.int .u64 (u.key : Nat), .int .u64 (u.val : Nat), .int .u64 (u.left : Nat), .int .u64 (u.right : Nat), .int .u64 (u.mark : Nat), .int .u64 (u.size : Nat), .int .u64 (t.right : Nat)] 296) := ⟨_, rfl⟩
  obtain ⟨b2, hb2⟩ : ∃ b2, b2 = w2.heap.size := ⟨_, rfl⟩
  have hbx3 : Box W2 b2 296 [.int .u64 (u.key : Nat), .int .u64 (u.val : Nat), .int .u64 (u.left : Nat), .int .u64 (u.right : Nat), .int .u64 (u.mark : Nat), .int .u64 (u.size : Nat), .int .u64 (t.right : Nat)] := by rw [hW2, hb2]; exact Box.new w2 296 [.int .u64 (u.key : Nat), .int .u64 (u.val : Nat), .int .u64 (u.left : Nat), .int .u64 (u.right : Nat), .int .u64 (u.mark : Nat), .int .u64 (u.size : Nat), .int .u64 (t.right : Nat)]
  have hbx2' : Box W2 b1 296 [.int .u64 (t.key : Nat), .int .u64 (t.val : Nat), .int .u64 (t.left : Nat), .int .u64 (t.right : Nat), .int .u64 (t.mark : Nat), .int .u64 (t.size : Nat), .int .u64 (x : Nat)] := by rw [hW2]; exact hbx2H.out.alloc _
  have hbW2 : Hid (Below w.heap.size w W2) := Lib.hid (by rw [hW2]; exact hb2H.out.alloc hz2 _)
  have hge2 : w.heap.size ≤ b2 := by omega
  rw [← hW2, ← hb2]
  have hF1 : ¬ F b1 := fun hf => by have := hFwH.out b1 hf; omega
  have hF2 : ¬ F b2 := fun hf => by have := hFwH.out b2 hf; omega
  clear hW2 hb2 hb2H hbx2H hbx1H hG2H hbW1H hz2 hlt2
  have c0 := fun X : Kp W2 F => Kp.cell (hbx2'.at' (i := 0) rfl) hF1 X
  have c1 := fun X : Kp W2 F => Kp.cell (hbx2'.at' (i := 1) rfl) hF1 X
  have c2 := fun X : Kp W2 F => Kp.cell (hbx2'.at' (i := 2) rfl) hF1 X
  have c3 := fun X : Kp W2 F => Kp.cell (hbx2'.at' (i := 3) rfl) hF1 X
  have c4 := fun X : Kp W2 F => Kp.cell (hbx2'.at' (i := 4) rfl) hF1 X
  have c5 := fun X : Kp W2 F => Kp.cell (hbx2'.at' (i := 5) rfl) hF1 X
  have c6 := fun X : Kp W2 F => Kp.cell (hbx2'.at' (i := 6) rfl) hF1 X
  have d0 := fun X : Kp W2 F => Kp.cell (hbx3.at' (i := 0) rfl) hF2 X
  have d1 := fun X : Kp W2 F => Kp.cell (hbx3.at' (i := 1) rfl) hF2 X
  have d2 := fun X : Kp W2 F => Kp.cell (hbx3.at' (i := 2) rfl) hF2 X
  have d3 := fun X : Kp W2 F => Kp.cell (hbx3.at' (i := 3) rfl) hF2 X
  have d4 := fun X : Kp W2 F => Kp.cell (hbx3.at' (i := 4) rfl) hF2 X
  have d5 := fun X : Kp W2 F => Kp.cell (hbx3.at' (i := 5) rfl) hF2 X
  have d6 := fun X : Kp W2 F => Kp.cell (hbx3.at' (i := 6) rfl) hF2 X
  refine wp_region_row (fun w' => ∃ X : Kp W2 F, w' = X.W) [0, 1, 2, 3, 4, 5, 6, 7, 8, 9, 11, 12, 13] [10, 14, 15] hmo (by kernel_rfl) rfl (by kernel_rfl) (Kp.start _ _) (fun _ _ d _ _ h => by cases d <;> exact h) ?_
  refine wpReads_step _ _ rfl rfl (by rintro _ ⟨X, rfl⟩; go_simp; exact rfl) ?_
  go_simp
  refine wpReads_step _ _ rfl rfl (by rintro _ ⟨X, rfl⟩; go_simp; exact rfl) ?_
  go_simp
  refine wpReads_step _ _ rfl rfl (by rintro _ ⟨X, rfl⟩; go_simp; exact rfl) ?_
  go_simp
  refine wpReads_step _ _ rfl rfl (by rintro _ ⟨X, rfl⟩; go_simp; exact rfl) ?_
  go_simp
  refine wpReads_step _ _ rfl rfl (by rintro _ ⟨X, rfl⟩; go_simp; exact rfl) ?_
  go_simp
  refine wpReads_step _ _ rfl rfl (by rintro _ ⟨X, rfl⟩; go_simp; exact rfl) ?_
  go_simp
  refine wpReads_step _ _ rfl rfl (by rintro _ ⟨X, rfl⟩; go_simp; exact rfl) ?_
  go_simp
  refine wpReads_step _ _ rfl rfl (by rintro _ ⟨X, rfl⟩; go_simp; exact rfl) ?_
  go_simp
  refine wpReads_step _ _ rfl rfl (by rintro _ ⟨X, rfl⟩; go_simp; exact rfl) ?_
  go_simp
  refine wpReads_step _ _ rfl rfl (by rintro _ ⟨X, rfl⟩; go_simp; exact rfl) ?_
  go_simp
  refine wpReads_step _ _ rfl rfl (by rintro _ ⟨X, rfl⟩; go_simp; exact rfl) ?_
  go_simp
  refine wpReads_step _ _ rfl rfl (by rintro _ ⟨X, rfl⟩; go_simp; exact rfl) ?_
  go_simp
  refine wpReads_step _ _ rfl rfl (by rintro _ ⟨X, rfl⟩; go_simp; exact rfl) ?_
  go_simp
  refine wpReads_nil ?_
  clear c0 c1 c2 c3 c4 c5 c6 d0 d1 d2 d3 d4 d5 d6 hbx2' hbx3
  have hS2 := (hHs.out.below hbW2.out).below (below_drawn W2)
  have hw1 := with_at hS2 t hoktH.out x t.left u.left hx hoktH.out.left hokuH.out.left
  unfold treeV at hw1
  have hw1H := Lib.hid hw1
  clear hS2 hw1
  refine wpActs_step _ rfl (fun K5 hK5 => ?_)
  go_wp2_with fail
  refine hw1H.out.mono ?_
  rintro e w3 ⟨rfl, hS3, hT3⟩
  have hT3' : Turn W2 F w3 F := (Turn.below (below_drawn W2)).trans hT3
  have hw2 := with_at hS3 u hokuH.out t.right x u.right hl1 hx hokuH.out.right
  unfold treeV at hw2
  have hw2H := Lib.hid hw2
  have hT3H := Lib.hid hT3'
  clear hS3 hT3 hT3' hw2 hw1H
  go_wp2
  refine hK5 _ _ ⟨⟨w3, F, hT3H.out⟩, rfl⟩ ?_
  clear hK5 K5
  refine wpActs_step _ rfl (fun K6 hK6 => ?_)
  go_wp2_with fail
  refine hw2H.out.mono ?_
  rintro e w4 ⟨rfl, hS4, hT4⟩
  have hT4H := Lib.hid (hT3H.out.trans hT4)
  have hS4H := Lib.hid hS4
  clear hS4 hT4 hw2H
  go_wp2
  refine hK6 _ _ ⟨⟨w4, F, hT4H.out⟩, rfl⟩ ?_
  clear hK6 K6
  refine wpActs_step _ rfl (fun K7 hK7 => ?_)
  go_wp2
  refine hK7 _ _ ⟨⟨w4, F, hT4H.out⟩, rfl⟩ ?_
  clear hK7 K7
  refine wpActs_nil ?_
  go_wp2
  go_ret
  rw [hv.out]
  exact ⟨rfl, hS4H.out, (Turn.below hbW2.out).trans hT4H.out⟩
set_option maxHeartbeats 2000000 in
set_option maxRecDepth 100000 in
theorem avRight_at (h : StoreIs w s F R H P q most last G) (x : Nat) (hx : x < 18446744073709551616) :
    Calls Tryz.prog 264 #[.pointer (some ⟨s, 0, none⟩), .int .u64 (x : Nat)] w fun e w' => e = .returned (.int .u64 ((avRight R x).2 : Nat)) ∧ StoreIs w' s F (avRight R x).1 H P q most last G ∧ Turn w F w' F := by
  have hmo : Tryz.prog.follows .mixedOrders = true := by kernel_rfl
  obtain ⟨n, hrd, _⟩ := h.rd
  obtain ⟨t, ht⟩ : ∃ t, nodeG R x = t := ⟨_, rfl⟩
  obtain ⟨u, hu⟩ : ∃ u, nodeG R t.left = u := ⟨_, rfl⟩
  have hokt := hrd.nodeG x
  have hoku := hrd.nodeG t.left
  rw [ht] at hokt
  rw [hu] at hoku
  have hG1 := avGet_at hrd x hx
  have hG2 := fun W (hb : Below w.heap.size w W) => avGet_at (hrd.below hb) t.left hokt.left
  rw [ht] at hG1
  simp only [hu] at hG2
  unfold treeV at hG1 hG2
  have hG1H := Lib.hid hG1
  have hG2H := Lib.hid hG2
  have hHs := Lib.hid h
  have hv : Hid (avRight R x = (withR (withR R t x u.right t.right) u t.left u.left x, t.left)) := Lib.hid (by unfold avRight; rw [ht, hu])
  have hoktH := Lib.hid hokt
  have hokuH := Lib.hid hoku
  have hl1 := hokt.left
  have hFw : ∀ b, F b → b < w.heap.size := fun b hf => h.lt hf
  have hFwH := Lib.hid hFw
  clear h hrd hG1 hG2 ht hu hokt hoku hFw
  go_enter Tryz.func264, Tryz.ntmps264
  go_wp2_with fail
  refine hG1H.out.mono ?_
  rintro e w1 ⟨rfl, hb1⟩
  have hb1H := Lib.hid hb1
  have hz1 := hb1.size
  clear hb1
  go_wp2_with fail
  obtain ⟨W1, hW1⟩ : ∃ W1, W1 = w1.alloc (Obj.cells #[.int .u64 (t.key : Nat), .int .u64 (t.val : Nat), .int .u64 (t.left : Nat), .int .u64 (t.right : Nat), .int .u64 (t.mark : Nat), .int .u64 (t.size : Nat), .int .u64 (x : Nat)] 296) := ⟨_, rfl⟩
  obtain ⟨b1, hb1⟩ : ∃ b1, b1 = w1.heap.size := ⟨_, rfl⟩
  have hbx1 : Box W1 b1 296 [.int .u64 (t.key : Nat), .int .u64 (t.val : Nat), .int .u64 (t.left : Nat), .int .u64 (t.right : Nat), .int .u64 (t.mark : Nat), .int .u64 (t.size : Nat), .int .u64 (x : Nat)] := by rw [hW1, hb1]; exact Box.new w1 296 [.int .u64 (t.key : Nat), .int .u64 (t.val : Nat), .int .u64 (t.left : Nat), .int .u64 (t.right : Nat), .int .u64 (t.mark : Nat), .int .u64 (t.size : Nat), .int .u64 (x : Nat)]
  have hbW1 : Below w.heap.size w W1 := by rw [hW1]; exact hb1H.out.alloc hz1 _
  have hge1 : w.heap.size ≤ b1 := by omega
  rw [← hW1, ← hb1]
  have hbx1H := Lib.hid hbx1
  have hbW1H := Lib.hid hbW1
  clear hbx1 hbW1 hW1 hb1 hG1H hz1
  refine (hG2H.out _ hbW1H.out).mono ?_
  rintro e w2 ⟨rfl, hb2⟩
  have hb2H := Lib.hid (hbW1H.out.trans (hb2.mono hbW1H.out.size))
  have hbx2H := Lib.hid (hbx1H.out.below hb2)
  have hz2 := hb2H.out.size
  have hlt2 : b1 < w2.heap.size := hbx2H.out.lt
  clear hb2
  go_wp2_with fail
  obtain ⟨W2, hW2⟩ : ∃ W2, W2 = w2.alloc (Obj.cells #[.int .u64 (u.key : Nat), .int .u64 (u.val : Nat), .int .u64 (u.left : Nat), .int .u64 (u.right : Nat), .int .u64 (u.mark : Nat), .int .u64 (u.size : Nat), .int .u64 (t.left : Nat)] 296) := ⟨_, rfl⟩
  obtain ⟨b2, hb2⟩ : ∃ b2, b2 = w2.heap.size := ⟨_, rfl⟩
  have hbx3 : Box W2 b2 296 [.int .u64 (u.key : Nat), .int .u64 (u.val : Nat), .int .u64 (u.left : Nat), .int .u64 (u.right : Nat), .int .u64 (u.mark : Nat), .int .u64 (u.size : Nat), .int .u64 (t.left : Nat)] := by rw [hW2, hb2]; exact Box.new w2 296 [.int .u64 (u.key : Nat), .int .u64 (u.val : Nat), .int .u64 (u.left : Nat), .int .u64 (u.right : Nat), .int .u64 (u.mark : Nat), .int .u64 (u.size : Nat), .int .u64 (t.left : Nat)]
  have hbx2' : Box W2 b1 296 [.int .u64 (t.key : Nat), .int .u64 (t.val : Nat), .int .u64 (t.left : Nat), .int .u64 (t.right : Nat), .int .u64 (t.mark : Nat), .int .u64 (t.size : Nat), .int .u64 (x : Nat)] := by rw [hW2]; exact hbx2H.out.alloc _
  have hbW2 : Hid (Below w.heap.size w W2) := Lib.hid (by rw [hW2]; exact hb2H.out.alloc hz2 _)
  have hge2 : w.heap.size ≤ b2 := by omega
  rw [← hW2, ← hb2]
  have hF1 : ¬ F b1 := fun hf => by have := hFwH.out b1 hf; omega
  have hF2 : ¬ F b2 := fun hf => by have := hFwH.out b2 hf; omega
  clear hW2 hb2 hb2H hbx2H hbx1H hG2H hbW1H hz2 hlt2
  have c0 := fun X : Kp W2 F => Kp.cell (hbx2'.at' (i := 0) rfl) hF1 X
  have c1 := fun X : Kp W2 F => Kp.cell (hbx2'.at' (i := 1) rfl) hF1 X
  have c2 := fun X : Kp W2 F => Kp.cell (hbx2'.at' (i := 2) rfl) hF1 X
  have c3 := fun X : Kp W2 F => Kp.cell (hbx2'.at' (i := 3) rfl) hF1 X
  have c4 := fun X : Kp W2 F => Kp.cell (hbx2'.at' (i := 4) rfl) hF1 X
  have c5 := fun X : Kp W2 F => Kp.cell (hbx2'.at' (i := 5) rfl) hF1 X
  have c6 := fun X : Kp W2 F => Kp.cell (hbx2'.at' (i := 6) rfl) hF1 X
  have d0 := fun X : Kp W2 F => Kp.cell (hbx3.at' (i := 0) rfl) hF2 X
  have d1 := fun X : Kp W2 F => Kp.cell (hbx3.at' (i := 1) rfl) hF2 X
  have d2 := fun X : Kp W2 F => Kp.cell (hbx3.at' (i := 2) rfl) hF2 X
  have d3 := fun X : Kp W2 F => Kp.cell (hbx3.at' (i := 3) rfl) hF2 X
  have d4 := fun X : Kp W2 F => Kp.cell (hbx3.at' (i := 4) rfl) hF2 X
  have d5 := fun X : Kp W2 F => Kp.cell (hbx3.at' (i := 5) rfl) hF2 X
  have d6 := fun X : Kp W2 F => Kp.cell (hbx3.at' (i := 6) rfl) hF2 X
  refine wp_region_row (fun w' => ∃ X : Kp W2 F, w' = X.W) [0, 1, 2, 3, 4, 5, 6, 7, 8, 9, 10, 11, 12] [13, 14, 15] hmo (by kernel_rfl) rfl (by kernel_rfl) (Kp.start _ _) (fun _ _ d _ _ h => by cases d <;> exact h) ?_
  refine wpReads_step _ _ rfl rfl (by rintro _ ⟨X, rfl⟩; go_simp; exact rfl) ?_
  go_simp
  refine wpReads_step _ _ rfl rfl (by rintro _ ⟨X, rfl⟩; go_simp; exact rfl) ?_
  go_simp
  refine wpReads_step _ _ rfl rfl (by rintro _ ⟨X, rfl⟩; go_simp; exact rfl) ?_
  go_simp
  refine wpReads_step _ _ rfl rfl (by rintro _ ⟨X, rfl⟩; go_simp; exact rfl) ?_
  go_simp
  refine wpReads_step _ _ rfl rfl (by rintro _ ⟨X, rfl⟩; go_simp; exact rfl) ?_
  go_simp
  refine wpReads_step _ _ rfl rfl (by rintro _ ⟨X, rfl⟩; go_simp; exact rfl) ?_
  go_simp
  refine wpReads_step _ _ rfl rfl (by rintro _ ⟨X, rfl⟩; go_simp; exact rfl) ?_
  go_simp
  refine wpReads_step _ _ rfl rfl (by rintro _ ⟨X, rfl⟩; go_simp; exact rfl) ?_
  go_simp
  refine wpReads_step _ _ rfl rfl (by rintro _ ⟨X, rfl⟩; go_simp; exact rfl) ?_
  go_simp
  refine wpReads_step _ _ rfl rfl (by rintro _ ⟨X, rfl⟩; go_simp; exact rfl) ?_
  go_simp
  refine wpReads_step _ _ rfl rfl (by rintro _ ⟨X, rfl⟩; go_simp; exact rfl) ?_
  go_simp
  refine wpReads_step _ _ rfl rfl (by rintro _ ⟨X, rfl⟩; go_simp; exact rfl) ?_
  go_simp
  refine wpReads_step _ _ rfl rfl (by rintro _ ⟨X, rfl⟩; go_simp; exact rfl) ?_
  go_simp
  refine wpReads_nil ?_
  clear c0 c1 c2 c3 c4 c5 c6 d0 d1 d2 d3 d4 d5 d6 hbx2' hbx3
  have hS2 := (hHs.out.below hbW2.out).below (below_drawn W2)
  have hw1 := with_at hS2 t hoktH.out x u.right t.right hx hokuH.out.right hoktH.out.right
  unfold treeV at hw1
  have hw1H := Lib.hid hw1
  clear hS2 hw1
  refine wpActs_step _ rfl (fun K5 hK5 => ?_)
  go_wp2_with fail
  refine hw1H.out.mono ?_
  rintro e w3 ⟨rfl, hS3, hT3⟩
  have hT3' : Turn W2 F w3 F := (Turn.below (below_drawn W2)).trans hT3
  have hw2 := with_at hS3 u hokuH.out t.left u.left x hl1 hokuH.out.left hx
  unfold treeV at hw2
  have hw2H := Lib.hid hw2
  have hT3H := Lib.hid hT3'
  clear hS3 hT3 hT3' hw2 hw1H
  go_wp2
  refine hK5 _ _ ⟨⟨w3, F, hT3H.out⟩, rfl⟩ ?_
  clear hK5 K5
  refine wpActs_step _ rfl (fun K6 hK6 => ?_)
  go_wp2_with fail
  refine hw2H.out.mono ?_
  rintro e w4 ⟨rfl, hS4, hT4⟩
  have hT4H := Lib.hid (hT3H.out.trans hT4)
  have hS4H := Lib.hid hS4
  clear hS4 hT4 hw2H
  go_wp2
  refine hK6 _ _ ⟨⟨w4, F, hT4H.out⟩, rfl⟩ ?_
  clear hK6 K6
  refine wpActs_step _ rfl (fun K7 hK7 => ?_)
  go_wp2
  refine hK7 _ _ ⟨⟨w4, F, hT4H.out⟩, rfl⟩ ?_
  clear hK7 K7
  refine wpActs_nil ?_
  go_wp2
  go_ret
  rw [hv.out]
  exact ⟨rfl, hS4H.out, (Turn.below hbW2.out).trans hT4H.out⟩
end
end Go.Proofs.YtijpmjaeanocpaaGreatDoor

set_option linter.unusedVariables false
set_option linter.unusedSimpArgs false
namespace Go.Proofs.YtijpmjaeanocpaaGreatDoor
open Go.RowKit Go.Shelf
theorem StoreIs.ok {w : World} {s : Nat} {F : Nat → Prop} {R : Nat → Option (List Nat)} {H : List Nat} {P q most last G : Nat} (h : StoreIs w s F R H P q most last G) (z : Nat) : (nodeG R z).Ok := by
  obtain ⟨n, hrd, _⟩ := h.rd
  exact hrd.nodeG z
theorem avLeft_lt {R : Nat → Option (List Nat)} {x : Nat} (h : ∀ z, (nodeG R z).Ok) : (avLeft R x).2 < 18446744073709551616 := (h x).right
theorem avRight_lt {R : Nat → Option (List Nat)} {x : Nat} (h : ∀ z, (nodeG R z).Ok) : (avRight R x).2 < 18446744073709551616 := (h x).left
section
variable {w w' : World} {s : Nat} {F : Nat → Prop} {R : Nat → Option (List Nat)} {H : List Nat} {P q most last G : Nat}
set_option maxHeartbeats 8000000 in
set_option maxRecDepth 100000 in
theorem avBal_at (h : StoreIs w s F R H P q most last G) (x : Nat) (hx : x < 18446744073709551616) :
    Calls Tryz.prog 233 #[.pointer (some ⟨s, 0, none⟩), .int .u64 (x : Nat)] w fun e w' => e = .returned (.int .u64 ((avBal R x).2 : Nat)) ∧ (avBal R x).2 < 18446744073709551616 ∧ StoreIs w' s F (avBal R x).1 H P q most last G ∧ Turn w F w' F := by
  have hmo : Tryz.prog.follows .mixedOrders = true := by kernel_rfl
  obtain ⟨n, hrd, _⟩ := h.rd
  obtain ⟨t, ht⟩ : ∃ t, nodeG R x = t := ⟨_, rfl⟩
  have hokt := hrd.nodeG x
  rw [ht] at hokt
  have hGt := Lib.hid (fun W (hb : Below w.heap.size w W) y (hy : y < 18446744073709551616) => by have := avGet_at (hrd.below hb) y hy; unfold treeV at this; exact this)
  have hHt := Lib.hid (fun W (hb : Below w.heap.size w W) y (hy : y < 18446744073709551616) => avHeight_at (hrd.below hb) y hy)
  have hokG := Lib.hid (fun y => hrd.nodeG y)
  have hHs := Lib.hid h
  have hoktH := Lib.hid hokt
  have hFwH := Lib.hid (fun b (hf : F b) => h.lt hf)
  have hv : avBal R x = if 1 < wrap64 (avH R t.left - avH R t.right) then
        if avH R (nodeG R t.left).left < avH R (nodeG R t.left).right then
          avRight (withR (avLeft R t.left).1 t x (avLeft R t.left).2 t.right) x
        else avRight R x
      else if wrap64 (avH R t.left - avH R t.right) < -1 then
        if avH R (nodeG R t.right).right < avH R (nodeG R t.right).left then
          avLeft (withR (avRight R t.right).1 t x t.left (avRight R t.right).2) x
        else avLeft R x
      else (R, x) := by
    unfold avBal
    rw [ht]
  obtain ⟨dd, hdd⟩ : ∃ dd, wrap64 (avH R t.left - avH R t.right) = dd := ⟨_, rfl⟩
  rw [hdd] at hv
  have hddH := Lib.hid hdd
  have hv0 := Lib.hid hv
  have hg1 := hGt.out w (Below.refl _ _) x hx
  rw [ht] at hg1
  have hg1H := Lib.hid hg1
  have hbr : Hid (Below w.heap.size w w) := Lib.hid (Below.refl _ _)
  clear h hrd hokt hg1 ht hv hdd
  go_enter Tryz.func233, Tryz.ntmps233
  go_wp2_with fail
  refine hg1H.out.mono ?_
  rintro e wg1 ⟨rfl, hbg⟩
  have hbg1 := Lib.hid (hbr.out.trans (hbg.mono hbr.out.size))
  have hzg1 := hbg1.out.size
  clear hbg
  go_wp2_with fail
  obtain ⟨W1, hW⟩ : ∃ W, W = wg1.alloc (Obj.cells #[.int .u64 (t.key : Nat), .int .u64 (t.val : Nat), .int .u64 (t.left : Nat), .int .u64 (t.right : Nat), .int .u64 (t.mark : Nat), .int .u64 (t.size : Nat), .int .u64 (x : Nat)] 296) := ⟨_, rfl⟩
  obtain ⟨b1, hb⟩ : ∃ b, b = wg1.heap.size := ⟨_, rfl⟩
  have hXb1 : Hid (Box W1 b1 296 [.int .u64 (t.key : Nat), .int .u64 (t.val : Nat), .int .u64 (t.left : Nat), .int .u64 (t.right : Nat), .int .u64 (t.mark : Nat), .int .u64 (t.size : Nat), .int .u64 (x : Nat)]) := Lib.hid (by rw [hW, hb]; exact Box.new wg1 296 [.int .u64 (t.key : Nat), .int .u64 (t.val : Nat), .int .u64 (t.left : Nat), .int .u64 (t.right : Nat), .int .u64 (t.mark : Nat), .int .u64 (t.size : Nat), .int .u64 (x : Nat)])
  have hBW1 : Hid (Below w.heap.size w W1) := Lib.hid (by rw [hW]; exact hbg1.out.alloc hzg1 _)
  have hFb1 : ¬ F b1 := fun hf => by have := hFwH.out b1 hf; omega
  rw [← hW, ← hb]
  clear hW hb hzg1 hbg1
  clear hg1H
  have c0 := fun X : Kp W1 F => Kp.cell (hXb1.out.at' (i := 0) rfl) hFb1 X
  have c1 := fun X : Kp W1 F => Kp.cell (hXb1.out.at' (i := 1) rfl) hFb1 X
  have c2 := fun X : Kp W1 F => Kp.cell (hXb1.out.at' (i := 2) rfl) hFb1 X
  have c3 := fun X : Kp W1 F => Kp.cell (hXb1.out.at' (i := 3) rfl) hFb1 X
  have c4 := fun X : Kp W1 F => Kp.cell (hXb1.out.at' (i := 4) rfl) hFb1 X
  have c5 := fun X : Kp W1 F => Kp.cell (hXb1.out.at' (i := 5) rfl) hFb1 X
  have c6 := fun X : Kp W1 F => Kp.cell (hXb1.out.at' (i := 6) rfl) hFb1 X
  refine wp_region_row (fun w' => ∃ X : Kp W1 F, w' = X.W) [0, 1, 2, 3, 5, 6, 7, 8] [4, 9, 10, 11] hmo (by kernel_rfl) rfl (by kernel_rfl) (Kp.start _ _) (fun _ _ d _ _ h => by cases d <;> exact h) ?_
  refine wpReads_step _ _ rfl rfl (by rintro _ ⟨X, rfl⟩; go_simp; exact rfl) ?_
  go_simp
  refine wpReads_step _ _ rfl rfl (by rintro _ ⟨X, rfl⟩; go_simp; exact rfl) ?_
  go_simp
  refine wpReads_step _ _ rfl rfl (by rintro _ ⟨X, rfl⟩; go_simp; exact rfl) ?_
  go_simp
  refine wpReads_step _ _ rfl rfl (by rintro _ ⟨X, rfl⟩; go_simp; exact rfl) ?_
  go_simp
  refine wpReads_step _ _ rfl rfl (by rintro _ ⟨X, rfl⟩; go_simp; exact rfl) ?_
  go_simp
  refine wpReads_step _ _ rfl rfl (by rintro _ ⟨X, rfl⟩; go_simp; exact rfl) ?_
  go_simp
  refine wpReads_step _ _ rfl rfl (by rintro _ ⟨X, rfl⟩; go_simp; exact rfl) ?_
  go_simp
  refine wpReads_step _ _ rfl rfl (by rintro _ ⟨X, rfl⟩; go_simp; exact rfl) ?_
  go_simp
  refine wpReads_nil ?_
  clear c0 c1 c2 c3 c4 c5 c6
  have hbd2 : Hid (Below w.heap.size w W1.drew) := Lib.hid (hBW1.out.trans ((below_drawn W1).mono hBW1.out.size))
  refine wpActs_step _ rfl (fun K1 hK1 => ?_)
  go_wp2_with fail
  refine (hHt.out _ hbd2.out t.left hoktH.out.left).mono ?_
  rintro e wa2 ⟨rfl, hba⟩
  have hba2 := Lib.hid (hbd2.out.trans (hba.mono hbd2.out.size))
  have hka2 : Hid (Below W1.heap.size W1 wa2) := Lib.hid ((below_drawn W1).trans hba)
  clear hba
  go_wp2
  refine hK1 _ _ ⟨⟨wa2, F, Turn.below hka2.out⟩, rfl⟩ ?_
  clear hK1 K1
  refine wpActs_step _ rfl (fun K2 hK2 => ?_)
  go_wp2_with fail
  refine (hHt.out _ hba2.out t.right hoktH.out.right).mono ?_
  rintro e wb2 ⟨rfl, hbb⟩
  have hbb2 := Lib.hid (hba2.out.trans (hbb.mono hba2.out.size))
  have hkb2 : Hid (Below W1.heap.size W1 wb2) := Lib.hid (hka2.out.trans (hbb.mono hka2.out.size))
  clear hbb
  go_wp2
  refine hK2 _ _ ⟨⟨wb2, F, Turn.below hkb2.out⟩, rfl⟩ ?_
  clear hK2 K2
  refine wpActs_step _ rfl (fun K3 hK3 => ?_)
  go_wp2
  rw [hddH.out]
  refine hK3 _ _ ⟨⟨wb2, F, Turn.below hkb2.out⟩, rfl⟩ ?_
  clear hK3 K3
  refine wpActs_step _ rfl (fun K4 hK4 => ?_)
  go_wp2
  refine hK4 _ _ ⟨⟨wb2, F, Turn.below hkb2.out⟩, rfl⟩ ?_
  clear hK4 K4
  refine wpActs_nil ?_
  have hXb1' := Lib.hid (hXb1.out.below hkb2.out)
  have hv := hv0.out
  clear hv0 hddH
  by_cases c1 : 1 < dd
  · have d1 : decide (1 < dd) = true := by simp; omega
    rw [if_pos c1] at hv
    have hoku := hokG.out t.left
    obtain ⟨u, hu⟩ : ∃ u, nodeG R t.left = u := ⟨_, rfl⟩
    rw [hu] at hoku hv
    have hGt := Lib.hid (fun W (hb : Below w.heap.size w W) y (hy : y < 18446744073709551616) => by have := hGt.out W hb y hy; exact this)
    have hokuH := Lib.hid hoku
    clear hoku
    have cl := hXb1'.out.at' (i := 2) rfl
    go_wp2_with fail
    clear cl
    have hg3 := hGt.out _ hbb2.out t.left hoktH.out.left
    rw [hu] at hg3
    have hg3H := Lib.hid hg3
    clear hg3 hu
    refine hg3H.out.mono ?_
    rintro e wg3 ⟨rfl, hbg⟩
    have hbg3 := Lib.hid (hbb2.out.trans (hbg.mono hbb2.out.size))
    have hzg3 := hbg3.out.size
    have hXb1'g := Lib.hid (hXb1'.out.below hbg)
    clear hbg
    go_wp2_with fail
    obtain ⟨W3, hW⟩ : ∃ W, W = wg3.alloc (Obj.cells #[.int .u64 (u.key : Nat), .int .u64 (u.val : Nat), .int .u64 (u.left : Nat), .int .u64 (u.right : Nat), .int .u64 (u.mark : Nat), .int .u64 (u.size : Nat), .int .u64 (t.left : Nat)] 296) := ⟨_, rfl⟩
    obtain ⟨b3, hb⟩ : ∃ b, b = wg3.heap.size := ⟨_, rfl⟩
    have hXb3 : Hid (Box W3 b3 296 [.int .u64 (u.key : Nat), .int .u64 (u.val : Nat), .int .u64 (u.left : Nat), .int .u64 (u.right : Nat), .int .u64 (u.mark : Nat), .int .u64 (u.size : Nat), .int .u64 (t.left : Nat)]) := Lib.hid (by rw [hW, hb]; exact Box.new wg3 296 [.int .u64 (u.key : Nat), .int .u64 (u.val : Nat), .int .u64 (u.left : Nat), .int .u64 (u.right : Nat), .int .u64 (u.mark : Nat), .int .u64 (u.size : Nat), .int .u64 (t.left : Nat)])
    have hBW3 : Hid (Below w.heap.size w W3) := Lib.hid (by rw [hW]; exact hbg3.out.alloc hzg3 _)
    have hXb1'w := Lib.hid (show Box W3 _ _ _ by rw [hW]; exact hXb1'g.out.alloc _)
    have hFb3 : ¬ F b3 := fun hf => by have := hFwH.out b3 hf; omega
    rw [← hW, ← hb]
    clear hW hb hzg3 hbg3
    have d0 := fun X : Kp W3 F => Kp.cell (hXb3.out.at' (i := 0) rfl) hFb3 X
    have d1 := fun X : Kp W3 F => Kp.cell (hXb3.out.at' (i := 1) rfl) hFb3 X
    have d2 := fun X : Kp W3 F => Kp.cell (hXb3.out.at' (i := 2) rfl) hFb3 X
    have d3 := fun X : Kp W3 F => Kp.cell (hXb3.out.at' (i := 3) rfl) hFb3 X
    have d4 := fun X : Kp W3 F => Kp.cell (hXb3.out.at' (i := 4) rfl) hFb3 X
    have d5 := fun X : Kp W3 F => Kp.cell (hXb3.out.at' (i := 5) rfl) hFb3 X
    have d6 := fun X : Kp W3 F => Kp.cell (hXb3.out.at' (i := 6) rfl) hFb3 X
    refine wp_region_row (fun w' => ∃ X : Kp W3 F, w' = X.W) [0, 1, 2, 3, 5, 6, 7, 8] [4, 9, 10] hmo (by kernel_rfl) rfl (by kernel_rfl) (Kp.start _ _) (fun _ _ d _ _ h => by cases d <;> exact h) ?_
    refine wpReads_step _ _ rfl rfl (by rintro _ ⟨X, rfl⟩; go_simp; exact rfl) ?_
    go_simp
    refine wpReads_step _ _ rfl rfl (by rintro _ ⟨X, rfl⟩; go_simp; exact rfl) ?_
    go_simp
    refine wpReads_step _ _ rfl rfl (by rintro _ ⟨X, rfl⟩; go_simp; exact rfl) ?_
    go_simp
    refine wpReads_step _ _ rfl rfl (by rintro _ ⟨X, rfl⟩; go_simp; exact rfl) ?_
    go_simp
    refine wpReads_step _ _ rfl rfl (by rintro _ ⟨X, rfl⟩; go_simp; exact rfl) ?_
    go_simp
    refine wpReads_step _ _ rfl rfl (by rintro _ ⟨X, rfl⟩; go_simp; exact rfl) ?_
    go_simp
    refine wpReads_step _ _ rfl rfl (by rintro _ ⟨X, rfl⟩; go_simp; exact rfl) ?_
    go_simp
    refine wpReads_step _ _ rfl rfl (by rintro _ ⟨X, rfl⟩; go_simp; exact rfl) ?_
    go_simp
    refine wpReads_nil ?_
    clear d0 d1 d2 d3 d4 d5 d6
    have hbd4 : Hid (Below w.heap.size w W3.drew) := Lib.hid (hBW3.out.trans ((below_drawn W3).mono hBW3.out.size))
    refine wpActs_step _ rfl (fun K1 hK1 => ?_)
    go_wp2_with fail
    refine (hHt.out _ hbd4.out u.left hokuH.out.left).mono ?_
    rintro e wa4 ⟨rfl, hba⟩
    have hba4 := Lib.hid (hbd4.out.trans (hba.mono hbd4.out.size))
    have hka4 : Hid (Below W3.heap.size W3 wa4) := Lib.hid ((below_drawn W3).trans hba)
    clear hba
    go_wp2
    refine hK1 _ _ ⟨⟨wa4, F, Turn.below hka4.out⟩, rfl⟩ ?_
    clear hK1 K1
    refine wpActs_step _ rfl (fun K2 hK2 => ?_)
    go_wp2_with fail
    refine (hHt.out _ hba4.out u.right hokuH.out.right).mono ?_
    rintro e wb4 ⟨rfl, hbb⟩
    have hbb4 := Lib.hid (hba4.out.trans (hbb.mono hba4.out.size))
    have hkb4 : Hid (Below W3.heap.size W3 wb4) := Lib.hid (hka4.out.trans (hbb.mono hka4.out.size))
    clear hbb
    go_wp2
    refine hK2 _ _ ⟨⟨wb4, F, Turn.below hkb4.out⟩, rfl⟩ ?_
    clear hK2 K2
    refine wpActs_step _ rfl (fun K3 hK3 => ?_)
    go_wp2
    refine hK3 _ _ ⟨⟨wb4, F, Turn.below hkb4.out⟩, rfl⟩ ?_
    clear hK3 K3
    refine wpActs_nil ?_
    have hXb3' := Lib.hid (hXb3.out.below hkb4.out)
    have hXb1 := Lib.hid (hXb1'w.out.below hkb4.out)
    have hRot := Lib.hid (fun W (hb : Below w.heap.size w W) => avLeft_at (hHs.out.below hb) t.left hoktH.out.left)
    by_cases c2 : avH R u.left < avH R u.right
    · have d2 : decide (avH R u.left < avH R u.right) = true := by simp; omega
      rw [d2]
      rw [if_pos c2] at hv
      have hvH := Lib.hid hv
      obtain ⟨R5, hR5⟩ : ∃ R5, (avLeft R t.left).1 = R5 := ⟨_, rfl⟩
      obtain ⟨y5, hy5⟩ : ∃ y5, (avLeft R t.left).2 = y5 := ⟨_, rfl⟩
      have hRotH := Lib.hid (hRot.out _ (hbb4.out.trans ((below_drawn wb4).mono hbb4.out.size)))
      rw [hR5, hy5] at hvH hRotH
      have hy5l : y5 < 18446744073709551616 := by rw [← hy5]; exact avLeft_lt (fun z => hokG.out z)
      clear hv c2 hRot hR5 hy5
      go_wp2_with fail
      have c0 := fun X : Kp wb4 F => Kp.cell (hXb1.out.at' (i := 0) rfl) hFb1 X
      have c1 := fun X : Kp wb4 F => Kp.cell (hXb1.out.at' (i := 1) rfl) hFb1 X
      have c2 := fun X : Kp wb4 F => Kp.cell (hXb1.out.at' (i := 2) rfl) hFb1 X
      have c3 := fun X : Kp wb4 F => Kp.cell (hXb1.out.at' (i := 3) rfl) hFb1 X
      have c4 := fun X : Kp wb4 F => Kp.cell (hXb1.out.at' (i := 4) rfl) hFb1 X
      have c5 := fun X : Kp wb4 F => Kp.cell (hXb1.out.at' (i := 5) rfl) hFb1 X
      have c6 := fun X : Kp wb4 F => Kp.cell (hXb1.out.at' (i := 6) rfl) hFb1 X
      have d0 := fun X : Kp wb4 F => Kp.cell (hXb3'.out.at' (i := 0) rfl) hFb3 X
      have d1 := fun X : Kp wb4 F => Kp.cell (hXb3'.out.at' (i := 1) rfl) hFb3 X
      have d2 := fun X : Kp wb4 F => Kp.cell (hXb3'.out.at' (i := 2) rfl) hFb3 X
      have d3 := fun X : Kp wb4 F => Kp.cell (hXb3'.out.at' (i := 3) rfl) hFb3 X
      have d4 := fun X : Kp wb4 F => Kp.cell (hXb3'.out.at' (i := 4) rfl) hFb3 X
      have d5 := fun X : Kp wb4 F => Kp.cell (hXb3'.out.at' (i := 5) rfl) hFb3 X
      have d6 := fun X : Kp wb4 F => Kp.cell (hXb3'.out.at' (i := 6) rfl) hFb3 X
      refine wp_region_row (fun w' => ∃ X : Kp wb4 F, w' = X.W) [0, 1, 2, 3, 4, 6, 7, 8] [5, 9] hmo (by kernel_rfl) rfl (by kernel_rfl) (Kp.start _ _) (fun _ _ d _ _ h => by cases d <;> exact h) ?_
      refine wpReads_step _ _ rfl rfl (by rintro _ ⟨X, rfl⟩; go_simp; exact rfl) ?_
      go_simp
      refine wpReads_step _ _ rfl rfl (by rintro _ ⟨X, rfl⟩; go_simp; exact rfl) ?_
      go_simp
      refine wpReads_step _ _ rfl rfl (by rintro _ ⟨X, rfl⟩; go_simp; exact rfl) ?_
      go_simp
      refine wpReads_step _ _ rfl rfl (by rintro _ ⟨X, rfl⟩; go_simp; exact rfl) ?_
      go_simp
      refine wpReads_step _ _ rfl rfl (by rintro _ ⟨X, rfl⟩; go_simp; exact rfl) ?_
      go_simp
      refine wpReads_step _ _ rfl rfl (by rintro _ ⟨X, rfl⟩; go_simp; exact rfl) ?_
      go_simp
      refine wpReads_step _ _ rfl rfl (by rintro _ ⟨X, rfl⟩; go_simp; exact rfl) ?_
      go_simp
      refine wpReads_step _ _ rfl rfl (by rintro _ ⟨X, rfl⟩; go_simp; exact rfl) ?_
      go_simp
      refine wpReads_nil ?_
      clear c0 c1 c2 c3 c4 c5 c6 d0 d1 d2 d3 d4 d5 d6
      refine wpActs_step _ rfl (fun K5 hK5 => ?_)
      have hRd := hRotH.out
      clear hRotH
      go_wp2_with fail
      have hdr := hRd
      clear hRd
      refine hdr.mono ?_
      rintro e w6 ⟨rfl, hS6, hT6⟩
      have hT6' : Turn wb4 F w6 F := (Turn.below (below_drawn wb4)).trans hT6
      have hwt := with_at hS6 t hoktH.out x y5 t.right hx hy5l hoktH.out.right
      unfold treeV at hwt
      have hwtH := Lib.hid hwt
      have hT6H := Lib.hid hT6'
      clear hS6 hT6 hT6' hwt hdr
      go_wp2
      refine hK5 _ _ ⟨⟨w6, F, hT6H.out⟩, rfl⟩ ?_
      clear hK5 K5
      refine wpActs_step _ rfl (fun K6 hK6 => ?_)
      go_wp2_with fail
      refine hwtH.out.mono ?_
      rintro e w7 ⟨rfl, hS7, hT7⟩
      have hT7H := Lib.hid (hT6H.out.trans hT7)
      have hfin := Lib.hid (avRight_at hS7 x hx)
      have hlt7 := avRight_lt (x := x) (fun z => hS7.ok z)
      clear hS7 hT7 hwtH
      go_wp2
      refine hK6 _ _ ⟨⟨w7, F, hT7H.out⟩, rfl⟩ ?_
      clear hK6 K6
      refine wpActs_nil ?_
      go_wp2_with fail
      refine hfin.out.mono ?_
      rintro e w8 ⟨rfl, hS8, hT8⟩
      have hS8H := Lib.hid hS8
      have hT8H := Lib.hid ((Turn.below (F := F) hbb4.out).trans (hT7H.out.trans hT8))
      clear hS8 hT8 hfin
      go_wp2
      go_ret
      rw [hvH.out]
      exact ⟨rfl, hlt7, hS8H.out, hT8H.out⟩
    · have d2 : decide (avH R u.left < avH R u.right) = false := by simp; omega
      rw [d2]
      rw [if_neg c2] at hv
      have hvH := Lib.hid hv
      have hfin := Lib.hid (avRight_at (hHs.out.below hbb4.out) x hx)
      clear hv c2 hRot
      go_wp2_with fail
      refine hfin.out.mono ?_
      rintro e w8 ⟨rfl, hS8, hT8⟩
      have hS8H := Lib.hid hS8
      have hT8H := Lib.hid ((Turn.below (F := F) hbb4.out).trans hT8)
      clear hS8 hT8 hfin
      go_wp2
      go_ret
      rw [hvH.out]
      exact ⟨rfl, avRight_lt (fun z => hokG.out z), hS8H.out, hT8H.out⟩
  · have d1 : decide (1 < dd) = false := by simp; omega
    rw [if_neg c1] at hv
    by_cases c3 : dd < -1
    · have d3 : decide (dd < -1) = true := by simp; omega
      rw [if_pos c3] at hv
      have hoku := hokG.out t.right
      obtain ⟨u, hu⟩ : ∃ u, nodeG R t.right = u := ⟨_, rfl⟩
      rw [hu] at hoku hv
      have hGt := Lib.hid (fun W (hb : Below w.heap.size w W) y (hy : y < 18446744073709551616) => by have := hGt.out W hb y hy; exact this)
      have hokuH := Lib.hid hoku
      clear hoku
      have cl := hXb1'.out.at' (i := 3) rfl
      go_wp2_with fail
      clear cl
      have hg3 := hGt.out _ hbb2.out t.right hoktH.out.right
      rw [hu] at hg3
      have hg3H := Lib.hid hg3
      clear hg3 hu
      refine hg3H.out.mono ?_
      rintro e wg3 ⟨rfl, hbg⟩
      have hbg3 := Lib.hid (hbb2.out.trans (hbg.mono hbb2.out.size))
      have hzg3 := hbg3.out.size
      have hXb1'g := Lib.hid (hXb1'.out.below hbg)
      clear hbg
      go_wp2_with fail
      obtain ⟨W3, hW⟩ : ∃ W, W = wg3.alloc (Obj.cells #[.int .u64 (u.key : Nat), .int .u64 (u.val : Nat), .int .u64 (u.left : Nat), .int .u64 (u.right : Nat), .int .u64 (u.mark : Nat), .int .u64 (u.size : Nat), .int .u64 (t.right : Nat)] 296) := ⟨_, rfl⟩
      obtain ⟨b3, hb⟩ : ∃ b, b = wg3.heap.size := ⟨_, rfl⟩
      have hXb3 : Hid (Box W3 b3 296 [.int .u64 (u.key : Nat), .int .u64 (u.val : Nat), .int .u64 (u.left : Nat), .int .u64 (u.right : Nat), .int .u64 (u.mark : Nat), .int .u64 (u.size : Nat), .int .u64 (t.right : Nat)]) := Lib.hid (by rw [hW, hb]; exact Box.new wg3 296 [.int .u64 (u.key : Nat), .int .u64 (u.val : Nat), .int .u64 (u.left : Nat), .int .u64 (u.right : Nat), .int .u64 (u.mark : Nat), .int .u64 (u.size : Nat), .int .u64 (t.right : Nat)])
      have hBW3 : Hid (Below w.heap.size w W3) := Lib.hid (by rw [hW]; exact hbg3.out.alloc hzg3 _)
      have hXb1'w := Lib.hid (show Box W3 _ _ _ by rw [hW]; exact hXb1'g.out.alloc _)
      have hFb3 : ¬ F b3 := fun hf => by have := hFwH.out b3 hf; omega
      rw [← hW, ← hb]
      clear hW hb hzg3 hbg3
      have d0 := fun X : Kp W3 F => Kp.cell (hXb3.out.at' (i := 0) rfl) hFb3 X
      have d1 := fun X : Kp W3 F => Kp.cell (hXb3.out.at' (i := 1) rfl) hFb3 X
      have d2 := fun X : Kp W3 F => Kp.cell (hXb3.out.at' (i := 2) rfl) hFb3 X
      have d3 := fun X : Kp W3 F => Kp.cell (hXb3.out.at' (i := 3) rfl) hFb3 X
      have d4 := fun X : Kp W3 F => Kp.cell (hXb3.out.at' (i := 4) rfl) hFb3 X
      have d5 := fun X : Kp W3 F => Kp.cell (hXb3.out.at' (i := 5) rfl) hFb3 X
      have d6 := fun X : Kp W3 F => Kp.cell (hXb3.out.at' (i := 6) rfl) hFb3 X
      refine wp_region_row (fun w' => ∃ X : Kp W3 F, w' = X.W) [0, 1, 2, 3, 5, 6, 7, 8] [4, 9, 10] hmo (by kernel_rfl) rfl (by kernel_rfl) (Kp.start _ _) (fun _ _ d _ _ h => by cases d <;> exact h) ?_
      refine wpReads_step _ _ rfl rfl (by rintro _ ⟨X, rfl⟩; go_simp; exact rfl) ?_
      go_simp
      refine wpReads_step _ _ rfl rfl (by rintro _ ⟨X, rfl⟩; go_simp; exact rfl) ?_
      go_simp
      refine wpReads_step _ _ rfl rfl (by rintro _ ⟨X, rfl⟩; go_simp; exact rfl) ?_
      go_simp
      refine wpReads_step _ _ rfl rfl (by rintro _ ⟨X, rfl⟩; go_simp; exact rfl) ?_
      go_simp
      refine wpReads_step _ _ rfl rfl (by rintro _ ⟨X, rfl⟩; go_simp; exact rfl) ?_
      go_simp
      refine wpReads_step _ _ rfl rfl (by rintro _ ⟨X, rfl⟩; go_simp; exact rfl) ?_
      go_simp
      refine wpReads_step _ _ rfl rfl (by rintro _ ⟨X, rfl⟩; go_simp; exact rfl) ?_
      go_simp
      refine wpReads_step _ _ rfl rfl (by rintro _ ⟨X, rfl⟩; go_simp; exact rfl) ?_
      go_simp
      refine wpReads_nil ?_
      clear d0 d1 d2 d3 d4 d5 d6
      have hbd4 : Hid (Below w.heap.size w W3.drew) := Lib.hid (hBW3.out.trans ((below_drawn W3).mono hBW3.out.size))
      refine wpActs_step _ rfl (fun K1 hK1 => ?_)
      go_wp2_with fail
      refine (hHt.out _ hbd4.out u.right hokuH.out.right).mono ?_
      rintro e wa4 ⟨rfl, hba⟩
      have hba4 := Lib.hid (hbd4.out.trans (hba.mono hbd4.out.size))
      have hka4 : Hid (Below W3.heap.size W3 wa4) := Lib.hid ((below_drawn W3).trans hba)
      clear hba
      go_wp2
      refine hK1 _ _ ⟨⟨wa4, F, Turn.below hka4.out⟩, rfl⟩ ?_
      clear hK1 K1
      refine wpActs_step _ rfl (fun K2 hK2 => ?_)
      go_wp2_with fail
      refine (hHt.out _ hba4.out u.left hokuH.out.left).mono ?_
      rintro e wb4 ⟨rfl, hbb⟩
      have hbb4 := Lib.hid (hba4.out.trans (hbb.mono hba4.out.size))
      have hkb4 : Hid (Below W3.heap.size W3 wb4) := Lib.hid (hka4.out.trans (hbb.mono hka4.out.size))
      clear hbb
      go_wp2
      refine hK2 _ _ ⟨⟨wb4, F, Turn.below hkb4.out⟩, rfl⟩ ?_
      clear hK2 K2
      refine wpActs_step _ rfl (fun K3 hK3 => ?_)
      go_wp2
      refine hK3 _ _ ⟨⟨wb4, F, Turn.below hkb4.out⟩, rfl⟩ ?_
      clear hK3 K3
      refine wpActs_nil ?_
      have hXb3' := Lib.hid (hXb3.out.below hkb4.out)
      have hXb1 := Lib.hid (hXb1'w.out.below hkb4.out)
      have hRot := Lib.hid (fun W (hb : Below w.heap.size w W) => avRight_at (hHs.out.below hb) t.right hoktH.out.right)
      by_cases c2 : avH R u.right < avH R u.left
      · have d2 : decide (avH R u.right < avH R u.left) = true := by simp; omega
        rw [d2]
        rw [if_pos c2] at hv
        have hvH := Lib.hid hv
        obtain ⟨R5, hR5⟩ : ∃ R5, (avRight R t.right).1 = R5 := ⟨_, rfl⟩
        obtain ⟨y5, hy5⟩ : ∃ y5, (avRight R t.right).2 = y5 := ⟨_, rfl⟩
        have hRotH := Lib.hid (hRot.out _ (hbb4.out.trans ((below_drawn wb4).mono hbb4.out.size)))
        rw [hR5, hy5] at hvH hRotH
        have hy5l : y5 < 18446744073709551616 := by rw [← hy5]; exact avRight_lt (fun z => hokG.out z)
        clear hv c2 hRot hR5 hy5
        go_wp2_with fail
        have c0 := fun X : Kp wb4 F => Kp.cell (hXb1.out.at' (i := 0) rfl) hFb1 X
        have c1 := fun X : Kp wb4 F => Kp.cell (hXb1.out.at' (i := 1) rfl) hFb1 X
        have c2 := fun X : Kp wb4 F => Kp.cell (hXb1.out.at' (i := 2) rfl) hFb1 X
        have c3 := fun X : Kp wb4 F => Kp.cell (hXb1.out.at' (i := 3) rfl) hFb1 X
        have c4 := fun X : Kp wb4 F => Kp.cell (hXb1.out.at' (i := 4) rfl) hFb1 X
        have c5 := fun X : Kp wb4 F => Kp.cell (hXb1.out.at' (i := 5) rfl) hFb1 X
        have c6 := fun X : Kp wb4 F => Kp.cell (hXb1.out.at' (i := 6) rfl) hFb1 X
        have d0 := fun X : Kp wb4 F => Kp.cell (hXb3'.out.at' (i := 0) rfl) hFb3 X
        have d1 := fun X : Kp wb4 F => Kp.cell (hXb3'.out.at' (i := 1) rfl) hFb3 X
        have d2 := fun X : Kp wb4 F => Kp.cell (hXb3'.out.at' (i := 2) rfl) hFb3 X
        have d3 := fun X : Kp wb4 F => Kp.cell (hXb3'.out.at' (i := 3) rfl) hFb3 X
        have d4 := fun X : Kp wb4 F => Kp.cell (hXb3'.out.at' (i := 4) rfl) hFb3 X
        have d5 := fun X : Kp wb4 F => Kp.cell (hXb3'.out.at' (i := 5) rfl) hFb3 X
        have d6 := fun X : Kp wb4 F => Kp.cell (hXb3'.out.at' (i := 6) rfl) hFb3 X
        refine wp_region_row (fun w' => ∃ X : Kp wb4 F, w' = X.W) [0, 1, 2, 3, 4, 5, 6, 7] [8, 9] hmo (by kernel_rfl) rfl (by kernel_rfl) (Kp.start _ _) (fun _ _ d _ _ h => by cases d <;> exact h) ?_
        refine wpReads_step _ _ rfl rfl (by rintro _ ⟨X, rfl⟩; go_simp; exact rfl) ?_
        go_simp
        refine wpReads_step _ _ rfl rfl (by rintro _ ⟨X, rfl⟩; go_simp; exact rfl) ?_
        go_simp
        refine wpReads_step _ _ rfl rfl (by rintro _ ⟨X, rfl⟩; go_simp; exact rfl) ?_
        go_simp
        refine wpReads_step _ _ rfl rfl (by rintro _ ⟨X, rfl⟩; go_simp; exact rfl) ?_
        go_simp
        refine wpReads_step _ _ rfl rfl (by rintro _ ⟨X, rfl⟩; go_simp; exact rfl) ?_
        go_simp
        refine wpReads_step _ _ rfl rfl (by rintro _ ⟨X, rfl⟩; go_simp; exact rfl) ?_
        go_simp
        refine wpReads_step _ _ rfl rfl (by rintro _ ⟨X, rfl⟩; go_simp; exact rfl) ?_
        go_simp
        refine wpReads_step _ _ rfl rfl (by rintro _ ⟨X, rfl⟩; go_simp; exact rfl) ?_
        go_simp
        refine wpReads_nil ?_
        clear c0 c1 c2 c3 c4 c5 c6 d0 d1 d2 d3 d4 d5 d6
        refine wpActs_step _ rfl (fun K5 hK5 => ?_)
        have hRd := hRotH.out
        clear hRotH
        go_wp2_with fail
        have hdr := hRd
        clear hRd
        refine hdr.mono ?_
        rintro e w6 ⟨rfl, hS6, hT6⟩
        have hT6' : Turn wb4 F w6 F := (Turn.below (below_drawn wb4)).trans hT6
        have hwt := with_at hS6 t hoktH.out x t.left y5 hx hoktH.out.left hy5l
        unfold treeV at hwt
        have hwtH := Lib.hid hwt
        have hT6H := Lib.hid hT6'
        clear hS6 hT6 hT6' hwt hdr
        go_wp2
        refine hK5 _ _ ⟨⟨w6, F, hT6H.out⟩, rfl⟩ ?_
        clear hK5 K5
        refine wpActs_step _ rfl (fun K6 hK6 => ?_)
        go_wp2_with fail
        refine hwtH.out.mono ?_
        rintro e w7 ⟨rfl, hS7, hT7⟩
        have hT7H := Lib.hid (hT6H.out.trans hT7)
        have hfin := Lib.hid (avLeft_at hS7 x hx)
        have hlt7 := avLeft_lt (x := x) (fun z => hS7.ok z)
        clear hS7 hT7 hwtH
        go_wp2
        refine hK6 _ _ ⟨⟨w7, F, hT7H.out⟩, rfl⟩ ?_
        clear hK6 K6
        refine wpActs_nil ?_
        go_wp2_with fail
        refine hfin.out.mono ?_
        rintro e w8 ⟨rfl, hS8, hT8⟩
        have hS8H := Lib.hid hS8
        have hT8H := Lib.hid ((Turn.below (F := F) hbb4.out).trans (hT7H.out.trans hT8))
        clear hS8 hT8 hfin
        go_wp2
        go_ret
        rw [hvH.out]
        exact ⟨rfl, hlt7, hS8H.out, hT8H.out⟩
      · have d2 : decide (avH R u.right < avH R u.left) = false := by simp; omega
        rw [d2]
        rw [if_neg c2] at hv
        have hvH := Lib.hid hv
        have hfin := Lib.hid (avLeft_at (hHs.out.below hbb4.out) x hx)
        clear hv c2 hRot
        go_wp2_with fail
        refine hfin.out.mono ?_
        rintro e w8 ⟨rfl, hS8, hT8⟩
        have hS8H := Lib.hid hS8
        have hT8H := Lib.hid ((Turn.below (F := F) hbb4.out).trans hT8)
        clear hS8 hT8 hfin
        go_wp2
        go_ret
        rw [hvH.out]
        exact ⟨rfl, avLeft_lt (fun z => hokG.out z), hS8H.out, hT8H.out⟩
    · have d3 : decide (dd < -1) = false := by simp; omega
      rw [if_neg c3] at hv
      have hvH := Lib.hid hv
      clear hv
      go_wp2
      go_ret
      rw [hvH.out]
      exact ⟨rfl, hx, hHs.out.below hbb2.out, Turn.below hbb2.out⟩
end
end Go.Proofs.YtijpmjaeanocpaaGreatDoor

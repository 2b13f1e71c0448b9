/-
  The seat's own texts, part h: Tree2, Free, Prs, Prs2, Prs3, Grow, MadeP, ReadT, Law, Laid, Open, OpenNd.
-/
import Derived.Test.YtoifdmbffaaffaaGreatDoorMg
import Derived.Laws.AppendOwnNone
import Derived.Maps.AppendAt
import Derived.Deep.QuietTactic
import Derived.BigQuiet
import Derived.Deep.DeepMust
import Derived.Test.YtoifdmbffaaffaaGreatDoorRows
import Derived.ProofKit
import Derived.LaidMore
import Derived.OpenShut
import Derived.ShutString
import Derived.ChangeOld
import Derived.Stop.Joined
import Derived.Deep.Slices
import Derived.Deep.Fields
import Derived.ChangeSame
import Derived.Deep.SlicePairs
import Derived.ChangeSlices
/- Trees in records: a right one is told right; ranks and places by keys. Plain law. -/
set_option linter.unusedVariables false
set_option linter.unusedSimpArgs false
namespace Go.Proofs.YtoifdmbffaaffaaGreatDoor
open Go.RowKit Go.Shelf
theorem cmp_zero {a b : ByteArray} : Tx.cmp a b = 0 ↔ a = b := by
  unfold Tx.cmp
  rw [Tx.cb_zero]
  constructor
  · intro h
    cases a; cases b
    simp only [ByteArray.mk.injEq]
    exact Array.toList_inj.1 h
  · rintro rfl; rfl
theorem cmp_swap (a b : ByteArray) : Tx.cmp b a = -Tx.cmp a b := Tx.cb_swap _ _
theorem cmp_lt_trans {a b c : ByteArray} (h : Tx.cmp a b < 0) (k : Tx.cmp b c < 0) : Tx.cmp a c < 0 :=
  (Tx.cb_trans _ _ _ (Int.le_of_lt h) (Int.le_of_lt k)).2 (.inl h)
theorem cmp_range (a b : ByteArray) : Tx.cmp a b = -1 ∨ Tx.cmp a b = 0 ∨ Tx.cmp a b = 1 := Tx.cb_range _ _
/-- how many keys of pairs are below one -/
def rankL (l : List (ByteArray × ByteArray)) (k : ByteArray) : Nat := l.countP fun p => decide (Tx.cmp p.1 k < 0)
/-- pairs by rising keys -/
def Rising (l : List (ByteArray × ByteArray)) : Prop := l.Pairwise fun a b => Tx.cmp a.1 b.1 < 0
theorem rankL_le (l : List (ByteArray × ByteArray)) (k : ByteArray) : rankL l k ≤ l.length := List.countP_le_length
theorem rankL_all {l : List (ByteArray × ByteArray)} {k : ByteArray} (h : ∀ p ∈ l, Tx.cmp p.1 k < 0) : rankL l k = l.length := by
  unfold rankL
  rw [List.countP_eq_length]
  exact fun p hp => decide_eq_true (h p hp)
theorem rankL_none {l : List (ByteArray × ByteArray)} {k : ByteArray} (h : ∀ p ∈ l, ¬ Tx.cmp p.1 k < 0) : rankL l k = 0 := by
  unfold rankL
  rw [List.countP_eq_zero]
  exact fun p hp e => h p hp (of_decide_eq_true e)
theorem rankL_append (l m : List (ByteArray × ByteArray)) (k : ByteArray) : rankL (l ++ m) k = rankL l k + rankL m k := List.countP_append
theorem rankL_cons (p : ByteArray × ByteArray) (m : List (ByteArray × ByteArray)) (k : ByteArray) : rankL (p :: m) k = rankL m k + if Tx.cmp p.1 k < 0 then 1 else 0 := by
  unfold rankL
  rw [List.countP_cons]
  simp
namespace BT
variable {R : Nat → Option (List Nat)}
theorem rank_list (k : ByteArray) : ∀ t : BT, Rising t.prs → t.rank k = rankL t.prs k
  | nil, _ => rfl
  | node h kh vh m k' v l r, hs => by
    unfold Rising at hs
    rw [prs, List.pairwise_append, List.pairwise_cons] at hs
    obtain ⟨hl, ⟨hkr, hr⟩, hlk⟩ := hs
    have e1 := rank_list k l hl
    have e2 := rank_list k r hr
    rw [rank, prs, rankL_append, rankL_cons]
    have hsw := cmp_swap k k'
    by_cases c1 : Tx.cmp k k' < 0
    · have hnn : rankL r.prs k = 0 := by
        refine rankL_none fun p hp e => ?_
        have h1 : Tx.cmp k' p.1 < 0 := hkr p hp
        have h2 := cmp_lt_trans c1 h1
        have := cmp_swap k p.1
        omega
      rw [if_pos c1, e1, if_neg (show ¬ Tx.cmp k' k < 0 by omega), hnn]
      rfl
    · rw [if_neg c1]
      have hll : rankL l.prs k = l.size := by
        rw [← prs_len]
        refine rankL_all fun p hp => ?_
        have h1 : Tx.cmp p.1 k' < 0 := hlk p hp (k', v) (by simp)
        by_cases c0 : Tx.cmp k k' = 0
        · rw [cmp_zero.1 c0]; exact h1
        · exact cmp_lt_trans h1 (by omega)
      by_cases c2 : 0 < Tx.cmp k k'
      · rw [if_pos c2, hll, e2, if_pos (show Tx.cmp k' k < 0 by omega)]
        omega
      · have hnn : rankL r.prs k = 0 := by
          refine rankL_none fun p hp e => ?_
          have h1 : Tx.cmp k' p.1 < 0 := hkr p hp
          have hk : k = k' := cmp_zero.1 (by omega)
          have := cmp_swap k p.1
          rw [hk] at this e
          omega
        rw [if_neg c2, hll, if_neg (show ¬ Tx.cmp k' k < 0 by omega), hnn]
        rfl
theorem find_list (k : ByteArray) : ∀ t : BT, t.find k = if (t.prs[t.rank k]?).map (·.1) = some k then (t.nodes[t.rank k]?).getD 0 else 0
  | nil => by simp [find, prs, rank]
  | node h kh vh m k' v l r => by
    have e1 := find_list k l
    have e2 := find_list k r
    have hl1 := prs_len l
    have hl2 := nodes_len l
    have hle := rank_le k l
    rw [find, rank, prs, nodes]
    by_cases c1 : Tx.cmp k k' < 0
    · rw [if_pos c1, if_pos c1, e1]
      by_cases hlt : l.rank k < l.size
      · rw [List.getElem?_append_left (by omega), List.getElem?_append_left (by omega)]
      · obtain he : l.rank k = l.size := by omega
        rw [he, List.getElem?_append_right (by omega), List.getElem?_eq_none (by omega), hl1, Nat.sub_self]
        rw [if_neg (by simp), if_neg]
        simp only [List.getElem?_cons_zero, Option.map_some, Option.some.injEq]
        rintro rfl
        have := (cmp_zero (a := k') (b := k')).2 rfl
        omega
    · rw [if_neg c1, if_neg c1]
      by_cases c2 : 0 < Tx.cmp k k'
      · rw [if_pos c2, if_pos c2, e2, List.getElem?_append_right (by omega), List.getElem?_append_right (by omega)]
        rw [hl1, hl2, show l.size + 1 + r.rank k - l.size = r.rank k + 1 by omega, List.getElem?_cons_succ, List.getElem?_cons_succ]
      · rw [if_neg c2, if_neg c2, List.getElem?_append_right (by omega), List.getElem?_append_right (by omega), hl1, hl2, Nat.sub_self]
        rw [if_pos]
        · rfl
        · simp only [List.getElem?_cons_zero, Option.map_some, Option.some.injEq]
          exact (cmp_zero.1 (by omega)).symm
end BT
/-- what stands of a node in a tree -/
structure En where
  h : Nat
  nd : Nd
  k : ByteArray
  v : ByteArray
def En.At (R : Nat → Option (List Nat)) (e : En) : Prop := R e.h = some e.nd.ws ∧ R e.nd.key = some (Tx.wordsL e.k.data.toList) ∧ R e.nd.val = some (Tx.wordsL e.v.data.toList) ∧ e.k.size ≤ 1000 ∧ e.v.size ≤ 1000 ∧ fitsR R e.nd = true
def En.hs (e : En) : List Nat := [e.h, e.nd.key, e.nd.val]
theorem En.At.pair {R : Nat → Option (List Nat)} {h : Nat} {nd : Nd} {k v : ByteArray} (h1 : R h = some nd.ws) (h2 : R nd.key = some (Tx.wordsL k.data.toList)) (h3 : R nd.val = some (Tx.wordsL v.data.toList)) (h4 : k.size ≤ 1000) (h5 : v.size ≤ 1000) : pairE R h = 0 ∧ pairP R h = (k, v) := by
  obtain ⟨e1, e2⟩ := nodeR_at h1
  obtain ⟨b1, b2⟩ := blobR_text h2 h4
  obtain ⟨b3, b4⟩ := blobR_text h3 h5
  have hp : pairE R h = 0 := by unfold pairE; rw [e2, if_neg (by simp [e1]), if_neg (by simp [b2]), b4]
  refine ⟨hp, ?_⟩
  unfold pairP
  rw [if_pos hp, e2, b1, b3]
  rfl
namespace BT
variable {R : Nat → Option (List Nat)}
def ents : BT → List En
  | nil => []
  | node h kh vh m k v l r => l.ents ++ ⟨h, ⟨kh, vh, l.root, r.root, m, l.size + 1 + r.size⟩, k, v⟩ :: r.ents
theorem ents_nodes : ∀ t : BT, t.ents.map (·.h) = t.nodes
  | nil => rfl
  | node _ _ _ _ _ _ l r => by rw [ents, nodes, List.map_append, List.map_cons, ents_nodes l, ents_nodes r]
theorem ents_prs : ∀ t : BT, t.ents.map (fun e => (e.k, e.v)) = t.prs
  | nil => rfl
  | node _ _ _ _ _ _ l r => by rw [ents, prs, List.map_append, List.map_cons, ents_prs l, ents_prs r]
theorem ents_hs : ∀ t : BT, t.ents.flatMap En.hs = t.hs
  | nil => rfl
  | node _ _ _ _ _ _ l r => by rw [ents, hs, List.flatMap_append, List.flatMap_cons, ents_hs l, ents_hs r]; rfl
theorem ents_sides : ∀ (t : BT) (e : En), e ∈ t.ents → (e.nd.left = 0 ∨ e.nd.left ∈ t.nodes) ∧ (e.nd.right = 0 ∨ e.nd.right ∈ t.nodes)
  | nil, e, h => by simp [ents] at h
  | node h kh vh m k v l r, e, he => by
    simp only [ents, List.mem_append, List.mem_cons] at he
    simp only [nodes, List.mem_append, List.mem_cons]
    rcases he with he | rfl | he
    · obtain ⟨h1, h2⟩ := ents_sides l e he
      exact ⟨h1.imp_right .inl, h2.imp_right .inl⟩
    · exact ⟨(root_nodes l).imp_right .inl, (root_nodes r).imp_right fun h => .inr (.inr h)⟩
    · obtain ⟨h1, h2⟩ := ents_sides r e he
      exact ⟨h1.imp_right fun h => .inr (.inr h), h2.imp_right fun h => .inr (.inr h)⟩
theorem side_at {t : BT} (ht : t.At R) : sideR R t.root = some t.size := by
  unfold sideR
  cases t with
  | nil => rfl
  | node h kh vh m k v l r =>
    obtain ⟨h1, h2, _⟩ := ht
    obtain ⟨e1, e2⟩ := nodeR_at h2
    rw [root, if_neg h1, if_neg (by simp [e1]), e2]
    rfl
theorem ents_at : ∀ (t : BT), t.At R → t.size < 18446744073709551616 → ∀ e ∈ t.ents, e.At R
  | nil, _, _, e, he => by simp [ents] at he
  | node h kh vh m k v l r, ht, hs, e, he => by
    obtain ⟨h1, h2, h3, h4, h5, h6, hl, hr⟩ := ht
    simp only [size] at hs
    simp only [ents, List.mem_append, List.mem_cons] at he
    rcases he with he | rfl | he
    · exact ents_at l hl (by omega) e he
    · refine ⟨h2, h3, h4, h5, h6, ?_⟩
      have e1 : fitAcc R ⟨kh, vh, l.root, r.root, m, l.size + 1 + r.size⟩ 2 = some (l.size + 1 + r.size) := by
        simp only [fitAcc, Nd.side, if_true, Option.bind_some]
        rw [side_at hl]
        simp only [Option.map_some, Option.bind_some, Nat.one_ne_zero, if_false]
        rw [side_at hr]
        simp only [Option.map_some, Option.some.injEq]
        omega
      unfold fitsR
      rw [e1]
      simp
    · exact ents_at r hr (by omega) e he
end BT
section
variable {R : Nat → Option (List Nat)}
theorem chk3_some : ∀ (l S : List Nat), (S ++ l).Nodup → chk3 S l = some (S ++ l)
  | [], S, _ => by simp [chk3]
  | x :: t, S, h => by
    have hx : x ∉ S := fun hx => by
      rw [List.nodup_append] at h
      exact h.2.2 x hx x (by simp) rfl
    rw [chk3, if_neg hx, chk3_some t (S ++ [x]) (by simpa using h)]
    simp
theorem chk_fold : ∀ (es : List En) (c : Cst), (∀ e ∈ es, e.At R) → (es.map (fun e => (e.k, e.v))).Pairwise (fun a b => Tx.cmp a.1 b.1 < 0) → (c.first = true ∨ ∀ e ∈ es, Tx.cmp c.last e.k < 0) → (c.S ++ es.flatMap En.hs).Nodup →
    ∃ c', (es.map (·.h)).foldl (fun (c : Option Cst) h => c.bind fun c => c.step R h) (some c) = some c' ∧ c'.S = c.S ++ es.flatMap En.hs ∧ c'.sides = c.sides ++ es.flatMap (fun e => [e.nd.left, e.nd.right])
  | [], c, _, _, _, _ => ⟨c, rfl, by simp, by simp⟩
  | e :: es, c, hat, hp, hl, hn => by
    obtain ⟨h1, h2, h3, h4, h5, h6⟩ := hat e (by simp)
    obtain ⟨p1, p2⟩ := En.At.pair h1 h2 h3 h4 h5
    obtain ⟨e1, e2⟩ := nodeR_at h1
    rw [List.map_cons, List.pairwise_cons] at hp
    rw [List.flatMap_cons] at hn
    have hn3 : (c.S ++ e.hs).Nodup := by
      rw [← List.append_assoc] at hn
      exact (List.nodup_append.1 hn).1
    have hbad : c.bad R e.h = false := by
      unfold Cst.bad
      rw [p1, p2, e2, h6]
      rcases hl with hf | hf
      · rw [hf]; rfl
      · have := hf e (by simp)
        simp; omega
    have hstep : c.step R e.h = some ⟨c.S ++ e.hs, e.k, false, c.sides ++ [e.nd.left, e.nd.right]⟩ := by
      unfold Cst.step
      rw [if_neg (by simp [hbad]), e2, p2, show [e.h, e.nd.key, e.nd.val] = e.hs from rfl, chk3_some _ _ hn3]
      rfl
    obtain ⟨c', q1, q2, q3⟩ := chk_fold es ⟨c.S ++ e.hs, e.k, false, c.sides ++ [e.nd.left, e.nd.right]⟩ (fun x hx => hat x (by simp [hx])) hp.2 (.inr fun x hx => hp.1 _ (List.mem_map.2 ⟨x, hx, rfl⟩)) (by rw [List.append_assoc]; exact hn)
    refine ⟨c', ?_, ?_, ?_⟩
    · rw [List.map_cons, List.foldl_cons, Option.bind_some, hstep]
      exact q1
    · rw [q2, List.flatMap_cons, List.append_assoc]
    · rw [q3, List.flatMap_cons, List.append_assoc]
theorem BT.chk_at {t : BT} (ht : t.At R) (hr : Rising t.prs) (hn : t.hs.Nodup) (hs : t.size < 18446744073709551616) (root : Nat) :
    ∃ c, chkL R root t.nodes = some c ∧ c.S = t.hs ∧ c.sides = root :: t.ents.flatMap (fun e => [e.nd.left, e.nd.right]) := by
  obtain ⟨c, h1, h2, h3⟩ := chk_fold (R := R) t.ents ⟨[], ⟨#[]⟩, true, [root]⟩ (ents_at t ht hs) (by rw [ents_prs]; exact hr) (.inl rfl) (by rw [ents_hs]; exact hn)
  rw [ents_nodes] at h1
  exact ⟨c, h1, by rw [h2, ents_hs]; rfl, by rw [h3]; rfl⟩
theorem BT.check_at {t : BT} (ht : t.At R) (hr : Rising t.prs) (hn : t.hs.Nodup) {n : Nat} (hsz : t.size ≤ n / 8) (hs : t.size < 1000000) : checkR R n t.root = 0 := by
  unfold checkR
  by_cases h0 : t.root = 0
  · rw [if_pos h0]
  · rw [if_neg h0]
    have hrt : nodeE R t.root = 0 ∧ (nodeG R t.root).size = t.size := by
      cases t with
      | nil => exact absurd rfl h0
      | node h kh vh m k v l r =>
        obtain ⟨e1, e2⟩ := nodeR_at ht.2.1
        exact ⟨e1, by rw [BT.root, e2]; rfl⟩
    rw [if_neg (by simp [hrt.1]), inR_at ht hsz]
    obtain ⟨c, h1, h2, h3⟩ := BT.chk_at ht hr hn (by omega) t.root
    rw [h1]
    simp only
    rw [if_neg, if_neg]
    · rw [h2, hs_len, hrt.2]
      omega
    · rw [h3, h2, List.any_eq_true]
      rintro ⟨y, hy, h9⟩
      have hin : y = 0 ∨ y ∈ t.nodes := by
        rcases List.mem_cons.1 hy with rfl | hy
        · exact root_nodes t
        · obtain ⟨e, he, hye⟩ := List.mem_flatMap.1 hy
          obtain ⟨g1, g2⟩ := ents_sides t e he
          rcases List.mem_cons.1 hye with rfl | hye
          · exact g1
          · rcases List.mem_cons.1 hye with rfl | hye
            · exact g2
            · simp at hye
      rcases hin with rfl | hin
      · simp at h9
      · have := nodes_hs t y hin
        simp [this] at h9
end
end Go.Proofs.YtoifdmbffaaffaaGreatDoor
/- walk.Free, of a right tree. -/
set_option linter.unusedVariables false
set_option linter.unusedSimpArgs false
namespace Go.Proofs.YtoifdmbffaaffaaGreatDoor
open Go.RowKit Go.Shelf
/-- records of some handles less -/
def dropR (R : Nat → Option (List Nat)) (l : List Nat) : Nat → Option (List Nat) := fun y => if y ∈ l then none else R y
theorem dropR_nil (R : Nat → Option (List Nat)) : dropR R [] = R := by funext y; simp [dropR]
theorem dropR_in {R : Nat → Option (List Nat)} {l : List Nat} {y : Nat} (h : y ∈ l) : dropR R l y = none := if_pos h
theorem dropR_out {R : Nat → Option (List Nat)} {l : List Nat} {y : Nat} (h : y ∉ l) : dropR R l y = R y := if_neg h
theorem dropR_three (R : Nat → Option (List Nat)) (l : List Nat) (a b c : Nat) : updR (updR (updR (dropR R l) b none) c none) a none = dropR R (l ++ [a, b, c]) := by
  funext y
  unfold updR dropR
  simp only [List.mem_append, List.mem_cons, List.not_mem_nil, or_false]
  by_cases e1 : y = a
  · simp [e1]
  · by_cases e2 : y = b
    · simp [e2]
    · by_cases e3 : y = c
      · simp [e3]
      · simp [e1, e2, e3]
theorem Short.drop {R : Nat → Option (List Nat)} (h : Short R) (l : List Nat) : Short (dropR R l) := fun x ws hx => by
  unfold dropR at hx
  split at hx
  · cases hx
  · exact h x ws hx
theorem Short.upd {R : Nat → Option (List Nat)} (h : Short R) (x : Nat) (o : Option (List Nat)) (ho : ∀ ws, o = some ws → ws.length ≤ 200) : Short (updR R x o) := fun y ws hy => by
  unfold updR at hy
  split at hy
  · exact ho ws hy
  · exact h y ws hy
theorem sum_sub {f : Nat → Nat} : ∀ (l H : List Nat), l.Nodup → (∀ x ∈ l, x ∈ H) → (l.map f).sum ≤ (H.map f).sum
  | [], H, _, _ => by simp
  | x :: l, H, hn, hs => by
    rw [List.nodup_cons] at hn
    have hx : x ∈ H := hs x (by simp)
    have h1 := sum_sub (f := f) l (H.erase x) hn.2 (fun y hy => (List.mem_erase_of_ne (fun e => by subst e; exact hn.1 hy)).2 (hs y (by simp [hy])))
    have h2 := ((List.perm_cons_erase hx).map f).sum_nat
    simp only [List.map_cons, List.sum_cons] at h2 ⊢
    omega
section
variable {w w' : World} {s N : Nat} {F : Nat → Prop} {R : Nat → Option (List Nat)} {H : List Nat} {P q most last G n : Nat}
theorem StoreIs.dom (h : StoreIs w s F R H P q most last G) (x : Nat) : x ∈ H ↔ R x ≠ none := by
  obtain ⟨a, ha, t, v, L, mem, sl, Fh, h⟩ := h
  constructor
  · intro hx
    obtain ⟨k, nm⟩ := (h.inH x).1 hx
    obtain ⟨ws, h1, _⟩ := h.link x k nm
    rw [h1]; simp
  · intro hx
    by_cases hm : x ∈ H
    · exact hm
    · exact absurd (h.none' x hm) hx
theorem StoreIs.nodup (h : StoreIs w s F R H P q most last G) : H.Nodup := by
  obtain ⟨a, ha, t, v, L, mem, sl, Fh, h⟩ := h
  exact h.nodup
theorem BT.hs_in : ∀ (t : BT), t.At R → ∀ x ∈ t.hs, R x ≠ none
  | .nil, _, x, hx => by simp [BT.hs] at hx
  | .node h kh vh m k v l r, ht, x, hx => by
    obtain ⟨h1, h2, h3, h4, h5, h6, hl, hr⟩ := ht
    simp only [BT.hs, List.mem_append, List.mem_cons] at hx
    rcases hx with hx | rfl | rfl | rfl | hx
    · exact BT.hs_in l hl x hx
    · rw [h2]; simp
    · rw [h3]; simp
    · rw [h4]; simp
    · exact BT.hs_in r hr x hx
theorem BT.nodes_six : ∀ (t : BT), t.At R → ∀ x ∈ t.nodes, ∃ nd : Nd, R x = some nd.ws
  | .nil, _, x, hx => by simp [BT.nodes] at hx
  | .node h kh vh m k v l r, ht, x, hx => by
    obtain ⟨h1, h2, h3, h4, h5, h6, hl, hr⟩ := ht
    simp only [BT.nodes, List.mem_append, List.mem_cons] at hx
    rcases hx with hx | rfl | hx
    · exact BT.nodes_six l hl x hx
    · exact ⟨_, h2⟩
    · exact BT.nodes_six r hr x hx
theorem BT.nodes_sub : ∀ (t : BT), t.nodes.Sublist t.hs
  | .nil => List.Sublist.refl _
  | .node h kh vh m k v l r => by
    simp only [BT.nodes, BT.hs]
    exact List.Sublist.append (BT.nodes_sub l) ((((BT.nodes_sub r).cons vh).cons kh).cons_cons h)
/-- a tree in a store has no more nodes than the walks go through -/
theorem BT.size_words {t : BT} (ht : t.At R) (hn : t.hs.Nodup) (hd : ∀ x, x ∈ H ↔ R x ≠ none) (hw : WordsR R H P n) : 8 * t.size ≤ n := by
  obtain ⟨p, rfl, _, _, hsum⟩ := hw
  have h1 := sum_sub (f := fun x => ((R x).getD []).length + 2) t.nodes H ((BT.nodes_sub t).nodup hn) (fun x hx => (hd x).2 (BT.hs_in t ht x (BT.nodes_hs t x hx)))
  have h2 : (t.nodes.map fun x => ((R x).getD []).length + 2) = List.replicate t.size 8 := by
    rw [List.eq_replicate_iff]
    refine ⟨by simp [BT.nodes_len], fun b hb => ?_⟩
    obtain ⟨x, hx, rfl⟩ := List.mem_map.1 hb
    obtain ⟨nd, hnd⟩ := BT.nodes_six t ht x hx
    rw [hnd]; rfl
  rw [h2, List.sum_replicate_nat] at h1
  omega
theorem BT.root_lt {t : BT} (ht : t.At R) (h : Rd N w s R n) : t.root < 18446744073709551616 := by
  cases t with
  | nil => exact (by decide : (0 : Nat) < 18446744073709551616)
  | node x kh vh m k v l r => exact (h.u64 ht.2.1).1
theorem wfree_err (h : Rd N w s R n) (hsh : Short R) (x : Nat) (hx : x < 18446744073709551616) (hc : checkR R n x ≠ 0) :
    Calls Tryz.prog 42 #[.pointer (some ⟨s, 0, none⟩), .int .u64 (x : Nat)] w fun e w' => e = .returned (.int .i64 (checkR R n x : Nat)) ∧ Below w.heap.size w w' := by
  have hC := Lib.hid (check_at h hsh x hx)
  have d : (((checkR R n x : Nat) : Int) != 0) = true := by simp; omega
  generalize checkR R n x = z at *
  clear h hc
  go_enter Tryz.func42, Tryz.ntmps42
  go_wp2_with fail
  refine hC.out.mono ?_
  rintro e w1 ⟨rfl, hb1⟩
  have hbH := Lib.hid hb1
  clear hb1
  go_wp2
  go_ret
  exact ⟨rfl, hbH.out⟩
/-- what stands between two rounds -/
def FreeAt (w2 : World) (s : Nat) (F : Nat → Prop) (R : Nat → Option (List Nat)) (P q most last G : Nat) (l : List Nat) (wr : World) : Prop :=
  ∃ F' H', StoreIs wr s F' (dropR R l) H' P q most last G ∧ Turn w2 F wr F'
set_option maxHeartbeats 2000000 in
set_option maxRecDepth 100000 in
theorem wfree_nilTree (h : Rd N w s R n) (hsh : Short R) :
    Calls Tryz.prog 42 #[.pointer (some ⟨s, 0, none⟩), .int .u64 ((0 : Nat) : Int)] w fun e w' => e = .returned (.int .i64 0) ∧ Below w.heap.size w w' := by
  have hC := check_at h hsh 0 (by decide)
  rw [show checkR R n 0 = 0 from if_pos rfl] at hC
  have hCH := Lib.hid hC
  have hL := Lib.hid (fun w' (hb : Below w.heap.size w w') => list_at (h.below hb) 0 (by decide))
  have hin : Hid (inR R n 0 = []) := Lib.hid (by
    have := BT.inR_at (R := R) (t := .nil) trivial (n := n) (Nat.zero_le _)
    exact this)
  clear h hC
  go_enter Tryz.func42, Tryz.ntmps42
  go_wp2_with fail
  refine hCH.out.mono ?_
  rintro e w1 ⟨rfl, hb1⟩
  have hb1H := Lib.hid hb1
  clear hb1
  go_wp2_with fail
  refine (hL.out w1 hb1H.out).mono ?_
  rintro e w2 ⟨v, rfl, hrow, hb2⟩
  rw [hin.out] at hrow
  obtain ⟨A, cc, rfl⟩ := ownsRow_form hrow
  have hb2H := Lib.hid (hb1H.out.trans (hb2.mono hb1H.out.size))
  clear hb2 hrow
  go_wp2_with fail
  go_loopw [20] (fun iv wr => iv = .int .i64 0 ∧ wr = w2) (fun iv _ => (intOf iv).toNat)
  case atStart => exact ⟨rfl, rfl⟩
  case round =>
    obtain ⟨rfl, rfl⟩ := hrel
    go_wp2
    go_ret
    exact ⟨rfl, hb2H.out⟩
set_option maxHeartbeats 4000000 in
set_option maxRecDepth 100000 in
theorem wfree_at (h : StoreIs w s F R H P q most last G) (hsh : Short R) {t : BT} (ht : t.At R) (hr : Rising t.prs) (hn : t.hs.Nodup) :
    Calls Tryz.prog 42 #[.pointer (some ⟨s, 0, none⟩), .int .u64 (t.root : Nat)] w fun e w' => ∃ F' H', e = .returned (.int .i64 0) ∧ StoreIs w' s F' (dropR R t.hs) H' P q most last G ∧ Turn w F w' F' := by
  obtain ⟨n, hrd, hwd⟩ := h.rd
  have hsz := BT.size_words ht hn h.dom hwd
  have hnle := hrd.le
  have hx := BT.root_lt ht hrd
  by_cases ht0 : t.size = 0
  · have hnil : t = .nil := by
      cases t with
      | nil => rfl
      | node x kh vh m k v l r => simp [BT.size] at ht0
    subst hnil
    refine (wfree_nilTree hrd hsh).mono ?_
    rintro e w' ⟨rfl, hb⟩
    refine ⟨F, H, rfl, ?_, Turn.below hb⟩
    rw [show dropR R (BT.hs .nil) = R from dropR_nil R]
    exact h.below hb
  · have hC := check_at hrd hsh t.root hx
    rw [BT.check_at ht hr hn (n := n) (by omega) (by omega)] at hC
    have hCH := Lib.hid hC
    have hL := Lib.hid (fun w' (hb : Below w.heap.size w w') => list_at (hrd.below hb) t.root hx)
    have hin : Hid (inR R n t.root = t.nodes) := Lib.hid (BT.inR_at ht (by omega))
    obtain ⟨es, hes⟩ : ∃ es, t.ents = es := ⟨_, rfl⟩
    have hnodes : t.nodes = es.map (·.h) := by rw [← hes, BT.ents_nodes]
    have hhs : t.hs = es.flatMap En.hs := by rw [← hes, BT.ents_hs]
    have hat : Hid (∀ e ∈ es, e.At R) := Lib.hid (by rw [← hes]; exact BT.ents_at t ht (by omega))
    have hlen : es.length = t.size := by have := BT.nodes_len t; rw [hnodes, List.length_map] at this; exact this
    rw [hhs] at hn ⊢
    have hnH := Lib.hid hn
    have hnodesH := Lib.hid hnodes
    have hlen1 : 0 < es.length := by omega
    have hlen2 : es.length ≤ 40000 := by omega
    have hSH := Lib.hid h
    have hshH := Lib.hid hsh
    have hFlt : Hid (∀ b, F b → b < w.heap.size) := Lib.hid (fun b hb => h.lt hb)
    generalize t.root = rt at *
    clear hC hrd hwd hsz hnle ht0 hlen hn hhs hnodes hes ht hr h hsh
    go_enter Tryz.func42, Tryz.ntmps42
    go_wp2_with fail
    refine hCH.out.mono ?_
    rintro e w1 ⟨rfl, hb1⟩
    have hb1H := Lib.hid hb1
    clear hb1
    go_wp2_with fail
    refine (hL.out w1 hb1H.out).mono ?_
    rintro e w2 ⟨v, rfl, hrow, hb2⟩
    rw [hin.out, hnodesH.out, List.length_map] at hrow
    obtain ⟨g, cc, rfl⟩ := row_pos hrow hlen1
    have hg1 : w.heap.size ≤ g := by
      have h1 := (own_lt hrow (k := g) (by simp [Value.ownBlock])).1
      have h2 := hb1H.out.size
      omega
    have hcells : Hid (∀ j (hj : j < es.length), w2.cell? ((⟨g, 0, none⟩ : Addr).add j) = some (.int .u64 (es[j].h : Nat))) := Lib.hid (fun j hj =>
      hrow.cells (g := g) rfl j (.int .u64 (es[j].h : Nat)) (by simp [hsV, List.getElem?_eq_getElem hj]))
    have hgF : Hid (¬ F g) := Lib.hid (fun hf => by have := hFlt.out g hf; omega)
    have hb2H := Lib.hid (hb1H.out.trans (hb2.mono hb1H.out.size))
    have hS2 := Lib.hid (hSH.out.below hb2H.out)
    have h20 : Hid (FreeAt w2 s F R P q most last G ((es.take 0).flatMap En.hs) w2) := Lib.hid ⟨F, H, by rw [List.take_zero, List.flatMap_nil, dropR_nil]; exact hS2.out, Turn.refl _ _⟩
    clear hb2 hrow hL hCH hin hg1
    go_wp2_with fail
    go_loopw [20] (fun iv wr => ∃ k : Nat, k ≤ es.length ∧ iv = .int .i64 k ∧ Hid (FreeAt w2 s F R P q most last G ((es.take k).flatMap En.hs) wr)) (fun iv _ => es.length - (intOf iv).toNat)
    case atStart => exact ⟨0, by omega, rfl, h20⟩
    case round =>
      obtain ⟨k, hk, rfl, hfr⟩ := hrel
      by_cases hlt : k < es.length
      · obtain ⟨F1, H1, hS, hT⟩ := hfr.out
        have hcell := hT.cell (hcells.out k hlt) (by rw [show ((⟨g, 0, none⟩ : Addr).add k).block = g by unfold Addr.add; split <;> simp_all]; exact hgF.out)
        have hadd : (⟨g, 0, none⟩ : Addr).add k = ⟨g, k, none⟩ := by unfold Addr.add; split <;> simp_all
        rw [hadd] at hcell
        obtain ⟨en, hen⟩ : ∃ en, es[k] = en := ⟨_, rfl⟩
        obtain ⟨a1, a2, a3, a4, a5, _⟩ := hat.out es[k] (List.getElem_mem hlt)
        have htake : Hid ((es.take (k + 1)).flatMap En.hs = (es.take k).flatMap En.hs ++ en.hs) := Lib.hid (by rw [List.take_succ_eq_append_getElem hlt, List.flatMap_append, hen]; simp)
        rw [hen] at hcell a1 a2 a3 a4 a5
        have hnd := hnH.out
        rw [← List.take_append_drop (k + 1) es, List.flatMap_append, htake.out, List.append_assoc] at hnd
        obtain ⟨l, hl⟩ : ∃ l, (es.take k).flatMap En.hs = l := ⟨_, rfl⟩
        rw [hl] at hS hnd htake
        have hnd2 := (List.nodup_append.1 (List.append_assoc l en.hs _ ▸ hnd)).1
        have hdis := (List.nodup_append.1 hnd2).2.2
        have hn3 := (List.nodup_append.1 hnd2).2.1
        obtain ⟨nh, nd, nk, nv⟩ := en
        simp only [En.hs] at hdis hn3 a1 a2 a3 a4 a5
        have o1 : nh ∉ l := fun hm => hdis nh hm nh (by simp) rfl
        have o2 : nd.key ∉ l := fun hm => hdis _ hm nd.key (by simp) rfl
        have o3 : nd.val ∉ l := fun hm => hdis _ hm nd.val (by simp) rfl
        simp only [List.nodup_cons, List.mem_cons, List.not_mem_nil, or_false, not_or, not_false_eq_true, List.nodup_nil, and_true] at hn3
        obtain ⟨⟨n12, n13⟩, n23⟩ := hn3
        rw [← dropR_out (R := R) o1] at a1
        rw [← dropR_out (R := R) o2] at a2
        rw [← dropR_out (R := R) o3] at a3
        obtain ⟨n1, hrd1, _⟩ := hS.rd
        have hx1 := (hrd1.u64 a1).1
        obtain ⟨e1, e2⟩ := nodeR_at a1
        have hG := Lib.hid (nget_lit hrd1 nh hx1 nd e2 0 e1)
        obtain ⟨t1, _⟩ := Tx.text_words nk a4
        obtain ⟨t2, _⟩ := Tx.text_words nv a5
        have hSH1 := Lib.hid hS
        have hTH1 := Lib.hid hT
        have hD1 := Lib.hid (fun w' (hb : Below wr.heap.size wr w') => bdrop_at (hSH1.out.below hb) (hshH.out.drop l) a2 t1)
        have a3' : updR (dropR R l) nd.key none nd.val = some (Tx.wordsL nv.data.toList) := (updR_other (fun e => n23 e.symm)).trans a3
        have a1' : updR (updR (dropR R l) nd.key none) nd.val none nh = some nd.ws := (updR_other n13).trans ((updR_other n12).trans a1)
        have a3H := Lib.hid a3'
        have a1H := Lib.hid a1'
        have t2H := Lib.hid t2
        have hFb : Hid (∀ b, F1 b → b < wr.heap.size) := Lib.hid (fun b hb => hSH1.out.lt hb)
        clear hS hT a1 a2 a3 a3' a1' t1 t2 hnd hnd2 hdis hrd1 e1 e2 hadd o1 o2 o3 hen hfr n12 n13 n23
        go_wp2_with fail
        refine hG.out.mono ?_
        rintro e w3 ⟨rfl, hb3⟩
        have hb3H := Lib.hid hb3
        have hz3 := hb3.size
        clear hb3
        go_wp2_with fail
        have hb4 : Below wr.heap.size wr (w3.alloc (Obj.cells #[Value.int IntKind.u64 (nd.key : Nat), Value.int IntKind.u64 (nd.val : Nat), Value.int IntKind.u64 (nd.left : Nat), Value.int IntKind.u64 (nd.right : Nat), Value.int IntKind.u64 (nd.mark : Nat), Value.int IntKind.u64 (nd.size : Nat)] 54)) := hb3H.out.alloc hz3 _
        have q1 : (w3.alloc (Obj.cells #[Value.int IntKind.u64 (nd.key : Nat), Value.int IntKind.u64 (nd.val : Nat), Value.int IntKind.u64 (nd.left : Nat), Value.int IntKind.u64 (nd.right : Nat), Value.int IntKind.u64 (nd.mark : Nat), Value.int IntKind.u64 (nd.size : Nat)] 54)).cell? ⟨w3.heap.size, 1, none⟩ = some (.int .u64 (nd.val : Nat)) := by go_simp
        have hnF : ¬ F1 w3.heap.size := fun hf => by have := hFb.out _ hf; omega
        have hlt4 : w3.heap.size < (w3.alloc (Obj.cells #[Value.int IntKind.u64 (nd.key : Nat), Value.int IntKind.u64 (nd.val : Nat), Value.int IntKind.u64 (nd.left : Nat), Value.int IntKind.u64 (nd.right : Nat), Value.int IntKind.u64 (nd.mark : Nat), Value.int IntKind.u64 (nd.size : Nat)] 54)).heap.size := by simp
        refine (hD1.out _ hb4).mono ?_
        rintro e w5 ⟨F5, rfl, hS5, hT5⟩
        have hq5 := hT5.cell q1 hnF
        have hT5H := Lib.hid ((Turn.below (F := F1) hb4).trans hT5)
        have hD2 := Lib.hid (bdrop_at hS5 ((hshH.out.drop l).upd _ _ (fun ws e => by cases e)) a3H.out t2H.out)
        clear hb4 q1 hS5 hT5 hnF hlt4 hD1 hG
        go_wp2_with fail
        refine hD2.out.mono ?_
        rintro e w6 ⟨F6, rfl, hS6, hT6⟩
        have hT6H := Lib.hid (hT5H.out.trans hT6)
        have hD3 := Lib.hid (ndrop_at hS6 a1H.out rfl)
        clear hS6 hT6 hq5 hD2
        go_wp2_with fail
        refine hD3.out.mono ?_
        rintro e w7 ⟨F7, rfl, hS7, hT7⟩
        rw [dropR_three] at hS7
        have hfin : Hid (FreeAt w2 s F R P q most last G ((es.take (k + 1)).flatMap En.hs) w7) := Lib.hid ⟨F7, _, by rw [htake.out]; exact hS7, hTH1.out.trans (hT6H.out.trans hT7)⟩
        clear hS7 hT7 hD3
        go_wp2
        go_roundw
        case rel => exact ⟨k + 1, by omega, by go_num, hfin⟩
        case measure => simp [intOf]; omega
      · obtain rfl : k = es.length := by omega
        obtain ⟨F1, H1, hS, hT⟩ := hfr.out
        rw [List.take_length] at hS
        have hSF := Lib.hid hS
        have hTF := Lib.hid ((Turn.below (F := F) hb2H.out).trans hT)
        clear hS hT hfr
        go_wp2
        go_ret
        exact ⟨F1, H1, rfl, hSF.out, hTF.out⟩
end
end Go.Proofs.YtoifdmbffaaffaaGreatDoor
/- Slices of pairs; loftref11: Rank, Find. -/
set_option linter.unusedVariables false
set_option linter.unusedSimpArgs false
namespace Go.Proofs.YtoifdmbffaaffaaGreatDoor
open Go.RowKit Go.Shelf
abbrev Pr := ByteArray × ByteArray
def prsV (l : List Pr) : List Value := l.flatMap fun p => [.string p.1, .string p.2]
theorem prsV_len (l : List Pr) : (prsV l).length = l.length * 2 := by
  induction l with
  | nil => rfl
  | cons p l ih => simp only [prsV, List.flatMap_cons, List.length_append, List.length_cons, List.length_nil] at ih ⊢; omega
theorem prsV_append (l m : List Pr) : prsV (l ++ m) = prsV l ++ prsV m := by simp [prsV]
theorem prsV_at : ∀ (l : List Pr) (k : Nat) (h : k < l.length), (prsV l)[k * 2]? = some (.string l[k].1) ∧ (prsV l)[k * 2 + 1]? = some (.string l[k].2)
  | p :: l, 0, _ => ⟨rfl, rfl⟩
  | p :: l, k + 1, h => by
    have := prsV_at l k (by simpa using h)
    rw [show (k + 1) * 2 = k * 2 + 2 by omega]
    exact this
theorem prsV_drop : ∀ (l : List Pr) (k : Nat), prsV (l.drop k) = (prsV l).drop (k * 2)
  | [], k => by simp [prsV]
  | p :: l, 0 => by simp
  | p :: l, k + 1 => by
    rw [List.drop_succ_cons, prsV_drop l k, show (k + 1) * 2 = k * 2 + 2 by omega]
    rfl
theorem prsV_take : ∀ (l : List Pr) (k : Nat), prsV (l.take k) = (prsV l).take (k * 2)
  | [], k => by simp [prsV]
  | p :: l, 0 => by simp [prsV]
  | p :: l, k + 1 => by
    rw [List.take_succ_cons, show (k + 1) * 2 = k * 2 + 2 by omega]
    show [Value.string p.1, Value.string p.2] ++ prsV (l.take k) = _
    rw [prsV_take l k]
    rfl
theorem prsV_one (l : List Pr) : ∀ u ∈ prsV l, u.oneCell' = true := by
  intro u hu
  obtain ⟨p, _, hp⟩ := List.mem_flatMap.1 hu
  rcases List.mem_cons.1 hp with rfl | hp
  · rfl
  · rcases List.mem_cons.1 hp with rfl | hp
    · rfl
    · simp at hp
/-- a slice whose elements are pairs; it lies below block B -/
def Prs (w : World) (B : Nat) (A : Option Addr) (l : List Pr) : Prop :=
  l = [] ∨ ∃ b o, A = some ⟨b, o, none⟩ ∧ b < B ∧ ∀ j u, (prsV l)[j]? = some u → w.cell? ⟨b, o + j, none⟩ = some u
section
variable {w w' : World} {B B' : Nat} {A : Option Addr} {l : List Pr}
theorem Prs.nil (w : World) (B : Nat) (A : Option Addr) : Prs w B A [] := .inl rfl
theorem Prs.keep (h : Prs w B A l) (hk : ∀ b, b < B → w'.heap[b]? = w.heap[b]?) : Prs w' B A l := by
  rcases h with h | ⟨b, o, rfl, hb, hc⟩
  · exact .inl h
  · exact .inr ⟨b, o, rfl, hb, fun j u hu => (World.cell?_of_block (a := ⟨b, o + j, none⟩) (hk b hb)).trans (hc j u hu)⟩
theorem Prs.below (h : Prs w B A l) (hb : Below B w w') : Prs w' B A l := h.keep fun b hlt => hb.block b hlt
theorem Prs.more (h : Prs w B A l) (hB : B ≤ B') : Prs w B' A l := by
  rcases h with h | ⟨b, o, rfl, hb, hc⟩
  · exact .inl h
  · exact .inr ⟨b, o, rfl, by omega, hc⟩
theorem Prs.at' (h : Prs w B A l) {k : Nat} (hk : k < l.length) : ∃ b o, A = some ⟨b, o, none⟩ ∧ b < B ∧ w.cell? ⟨b, o + k * 2, none⟩ = some (.string l[k].1) ∧ w.cell? ⟨b, o + k * 2 + 1, none⟩ = some (.string l[k].2) := by
  rcases h with rfl | ⟨b, o, rfl, hb, hc⟩
  · simp at hk
  · obtain ⟨h1, h2⟩ := prsV_at l k hk
    exact ⟨b, o, rfl, hb, hc _ _ h1, by rw [Nat.add_assoc]; exact hc _ _ h2⟩
theorem Prs.take (h : Prs w B A l) (k : Nat) : Prs w B A (l.take k) := by
  rcases h with rfl | ⟨b, o, rfl, hb, hc⟩
  · left; simp
  · refine .inr ⟨b, o, rfl, hb, fun j u hu => hc j u ?_⟩
    rw [prsV_take, List.getElem?_take] at hu
    split at hu
    · exact hu
    · cases hu
theorem Prs.drop (h : Prs w B A l) {k c : Nat} (hk : k ≤ l.length) (hc : l.length ≤ c) : Prs w B (if c = k then A else A.map (·.add (k * 2))) (l.drop k) := by
  by_cases he : k = l.length
  · subst he; left; simp
  · rcases h with rfl | ⟨b, o, rfl, hb, hcell⟩
    · left; simp
    · rw [if_neg (by omega)]
      refine .inr ⟨b, o + k * 2, ?_, hb, fun j u hu => ?_⟩
      · show some ((⟨b, o, none⟩ : Addr).add (k * 2)) = _
        unfold Addr.add; split <;> simp_all
      · rw [Nat.add_assoc]
        refine hcell _ _ ?_
        rw [prsV_drop, List.getElem?_drop] at hu
        exact hu
theorem Prs.of_own {base n c : Nat} (h : w.ownsRow base 47 2 (.slice A n c) n (prsV l)) (hn : n = l.length) : Prs w w.heap.size A l := by
  by_cases hl : l = []
  · exact .inl hl
  · right
    have hp : 0 < l.length := List.length_pos_iff.2 hl
    rcases h.2 with ⟨_, h0⟩ | ⟨g, cap, cur, hv, hb, hg, _⟩
    · omega
    · cases hv
      refine ⟨g, 0, rfl, (Array.getElem?_eq_some_iff.1 hg).1, fun j u hu => ?_⟩
      have := h.cells (g := g) rfl j u hu
      rw [show (⟨g, 0, none⟩ : Addr).add j = ⟨g, j, none⟩ by unfold Addr.add; split <;> simp_all] at this
      rw [Nat.zero_add]
      exact this
theorem Tryz.under_pairs : Tryz.prog.underlying 35 = some (.slice 47) := by kernel_rfl
theorem Tryz.info_pair : (Tryz.prog.info? 47).map (fun i => (i.zero, i.size, i.bytes)) = some (some (.agg #[.string ⟨#[]⟩, .string ⟨#[]⟩]), 2, 32) := by kernel_rfl
/-- 'append(out, ys...)', out the call's own -/
theorem app_prs {ops : Array Oper} {rest : List Oper} {o : Oper} {a : Act} {Q : Exit → Act → World → Prop} (hgd : o.guard = none) (s x : Operand)
    (ho : o.op = .call { callee := .builtin .append, args := #[s, x], argTypes := #[35, 35] }) (w : World) (base : Nat) (v : Value) (xs : List Pr) (hs : a.eval s = v)
    (hown : w.ownsRow base 47 2 v xs.length (prsV xs)) (B : Nat) (A : Option Addr) (m c : Nat) (ys : List Pr) (hx : a.eval x = .slice A m c) (hm : m = ys.length) (hr : Prs w B A ys) (hA : A = none → c = 0) (hlen : xs.length + ys.length ≤ 4398046511104) (hbase : base ≤ w.heap.size)
    (h : ∀ v' w', w'.ownsRow base 47 2 v' (xs ++ ys).length (prsV (xs ++ ys)) → w.grownBy w' v.ownBlock → (v'.ownBlock = v.ownBlock ∨ v'.ownBlock = some w.heap.size) → wpList Tryz.prog ops Q rest (a.put o.dst v') w') :
    wpList Tryz.prog ops Q (o :: rest) a w := by
  obtain ⟨i0, hi, hz0, hz1, hz2⟩ := info_parts Tryz.info_pair
  subst hm
  cases A with
  | none =>
    have hy : ys = [] := by
      rcases hr with h | ⟨b, o, h, _⟩
      · exact h
      · cases h
    subst hy
    have := hA rfl
    subst this
    refine wpList_append_own_none hgd s x 35 ho base 47 i0 2 Tryz.under_pairs hi v xs.length (prsV xs) hs hown hx ?_
    exact h v w (by simpa using hown) (World.grownBy.refl w _) (.inl rfl)
  | some ad =>
    have hcells : ∀ j u, (prsV ys)[j]? = some u → w.cell? (ad.add j) = some u := by
      intro j u hu
      rcases hr with rfl | ⟨b, o, hA', _, hc⟩
      · simp [prsV] at hu
      · cases hA'
        rw [show (⟨b, o, none⟩ : Addr).add j = ⟨b, o + j, none⟩ by unfold Addr.add; split <;> simp_all]
        exact hc j u hu
    refine wpList_append_own_at w hgd s x 35 ho base 47 i0 (.agg #[.string ⟨#[]⟩, .string ⟨#[]⟩]) 2 32 Tryz.under_pairs hi hz0 hz1 hz2 rfl (by decide) v xs.length (prsV xs) hs hown ad ys.length c (prsV ys) hx (prsV_len ys) hcells (prsV_one ys) (by unfold maxLen; omega) (by omega) hbase ?_
    intro v' w' h1 h2 _ h4
    exact h v' w' (by rw [List.length_append, prsV_append]; exact h1) h2 h4
end
/-- loftref08.Compare -/
theorem rcmp_at (a b : ByteArray) (w : World) (ha : a.size ≤ 9223372036854775807) (hb : b.size ≤ 9223372036854775807) :
    Calls Tryz.prog 117 #[.string a, .string b] w fun e w' => e = .returned (.int .i64 (Tx.cmp a b)) ∧ Below w.heap.size w w' :=
  (Tx.refCmp_any a b w ha hb).mono fun e w' ⟨he, d, hd⟩ => ⟨he, by rw [hd]; exact Tx.drewN_below w d⟩
theorem rankL_take (l : List Pr) (k : Nat) (h : k < l.length) (key : ByteArray) : rankL (l.take (k + 1)) key = rankL (l.take k) key + if Tx.cmp l[k].1 key < 0 then 1 else 0 := by
  rw [List.take_succ_eq_append_getElem h, rankL_append, rankL_cons]
  simp [rankL]
def Sized (l : List Pr) : Prop := ∀ p ∈ l, p.1.size ≤ 9223372036854775807 ∧ p.2.size ≤ 9223372036854775807
set_option maxRecDepth 100000 in
theorem refRank_at {w : World} {B c : Nat} {A : Option Addr} {l : List Pr} (h : Prs w B A l) (hB : B ≤ w.heap.size) (hl : l.length ≤ 4398046511104) (hs : Sized l) (key : ByteArray) (hk : key.size ≤ 9223372036854775807) :
    Calls Tryz.prog 87 #[.slice A l.length c, .string key] w fun e w' => e = .returned (.int .i64 (rankL l key : Nat)) ∧ Below w.heap.size w w' := by
  have hH := Lib.hid h
  have hcm := Lib.hid (fun (p : Pr) (hp : p ∈ l) (W : World) => rcmp_at p.1 key W (hs p hp).1 hk)
  clear h hs
  go_enter Tryz.func87, Tryz.ntmps87
  go_wp2_with fail
  go_loopw [5, 6] (fun nv iv wr => ∃ k : Nat, k ≤ l.length ∧ iv = .int .i64 k ∧ nv = .int .i64 (rankL (l.take k) key : Nat) ∧ Hid (Below w.heap.size w wr)) (fun _ iv _ => l.length - (intOf iv).toNat)
  case atStart => exact ⟨0, by omega, rfl, rfl, Lib.hid (Below.refl _ _)⟩
  case round =>
    obtain ⟨k, hk2, rfl, rfl, hb⟩ := hrel
    have hr := rankL_le (l.take k) key
    rw [List.length_take] at hr
    have hr2 : rankL (l.take k) key ≤ k := by omega
    by_cases hlt : k < l.length
    · obtain ⟨b, o, hA, _, c1, _⟩ := (hH.out.below (hb.out.mono hB)).at' hlt
      have hrk := Lib.hid (rankL_take l k hlt key)
      have hcall := Lib.hid (hcm.out l[k] (List.getElem_mem hlt))
      generalize l[k] = p at *
      obtain ⟨z, hz⟩ : ∃ z, Tx.cmp p.1 key = z := ⟨_, rfl⟩
      rw [hz] at hrk hcall
      clear hz hr
      generalize hn9 : rankL (l.take k) key = n9 at *
      clear hn9
      subst hA
      have hz0 : z < 0 ∨ ¬ z < 0 := by omega
      rcases hz0 with h0 | h0
      all_goals
        go_wp2_with fail
        refine (hcall.out _).mono ?_
        rintro e w1 ⟨rfl, hb1⟩
        have hb1H := Lib.hid (hb.out.trans (hb1.mono hb.out.size))
        clear hb1 c1
        go_wp2
        go_roundw
        case rel => exact ⟨k + 1, by omega, by go_num, by rw [hrk.out]; first | (rw [if_pos h0]; go_num) | (rw [if_neg (by omega)]; rfl), hb1H⟩
        case measure => simp [intOf]; omega
    · obtain rfl : k = l.length := by omega
      have hfin : Hid (rankL (l.take l.length) key = rankL l key) := Lib.hid (by rw [List.take_length])
      go_wp2
      go_ret
      exact ⟨by rw [hfin.out]; rfl, hb.out⟩
theorem str_beq (a b : ByteArray) : (a.toList == b.toList) = decide (a = b) := by
  rw [Tx.cmp_beq, Bool.eq_iff_iff, beq_iff_eq, decide_eq_true_iff, cmp_zero]
end Go.Proofs.YtoifdmbffaaffaaGreatDoor
/- loftref11: Put, Sorted, Long. -/
set_option linter.unusedVariables false
set_option linter.unusedSimpArgs false
namespace Go.Proofs.YtoifdmbffaaffaaGreatDoor
open Go.RowKit Go.Shelf
/-- what loftref11.Put answers -/
def putL (l : List Pr) (p : Pr) : List Pr := l.take (rankL l p.1) ++ p :: l.drop (if (l[rankL l p.1]?).map (·.1) = some p.1 then rankL l p.1 + 1 else rankL l p.1)
theorem putL_len (l : List Pr) (p : Pr) : (putL l p).length ≤ l.length + 1 := by
  have := rankL_le l p.1
  unfold putL
  simp only [List.length_append, List.length_take, List.length_cons, List.length_drop]
  split <;> omega
theorem putL_mem {l : List Pr} {p q : Pr} (h : q ∈ putL l p) : q = p ∨ q ∈ l := by
  unfold putL at h
  rcases List.mem_append.1 h with h | h
  · exact .inr (List.mem_of_mem_take h)
  · rcases List.mem_cons.1 h with h | h
    · exact .inl h
    · exact .inr (List.mem_of_mem_drop h)
theorem Sized.put {l : List Pr} {p : Pr} (h : Sized l) (hp : p.1.size ≤ 9223372036854775807 ∧ p.2.size ≤ 9223372036854775807) : Sized (putL l p) := fun q hq => by
  rcases putL_mem hq with rfl | hq
  · exact hp
  · exact h q hq
theorem own2_lt {w : World} {base : Nat} {e : TypeId} {v : Value} {n : Nat} {xs : List Value} (h : w.ownsRow base e 2 v n xs) {k : Nat} (hk : v.ownBlock = some k) : base ≤ k ∧ k < w.heap.size := by
  rcases h.2 with ⟨rfl, _⟩ | ⟨g, cap, cur, rfl, h2, h3, _⟩
  · simp [Value.ownBlock] at hk
  · have : g = k := by simpa [Value.ownBlock] using hk
    subst this
    exact ⟨h2, (Array.getElem?_eq_some_iff.1 h3).1⟩
theorem own_lower {w : World} {base base' size : Nat} {e : TypeId} {v : Value} {n : Nat} {xs : List Value} (h : w.ownsRow base e size v n xs) (hb : base' ≤ base) : w.ownsRow base' e size v n xs := by
  refine ⟨h.1, ?_⟩
  rcases h.2 with h0 | ⟨g, cap, cur, h1, h2, h3⟩
  · exact .inl h0
  · exact .inr ⟨g, cap, cur, h1, by omega, h3⟩
theorem own_empty (w : World) (e : TypeId) : (w.alloc (.cells #[] e)).ownsRow w.heap.size e 2 (.slice (some ⟨w.heap.size, 0, none⟩) 0 0) 0 [] :=
  ⟨rfl, .inr ⟨w.heap.size, 0, #[], rfl, Nat.le_refl _, World.alloc_heap_new w _, Nat.le_refl _, Nat.zero_le _, rfl, rfl⟩⟩
theorem prs_one (w : World) (p : Pr) : Prs (w.alloc (.cells #[.string p.1, .string p.2] 47)) (w.heap.size + 1) (some ⟨w.heap.size, 0, none⟩) [p] := by
  refine .inr ⟨w.heap.size, 0, rfl, by omega, fun j u hu => ?_⟩
  have hn : (w.alloc (.cells #[.string p.1, .string p.2] 47)).heap[w.heap.size]? = some (.cells #[.string p.1, .string p.2] 47 (0, 0)) := World.alloc_heap_new w _
  generalize w.alloc (.cells #[.string p.1, .string p.2] 47) = V at *
  rcases j with _ | _ | j
  · simp [prsV] at hu; subst hu; simp [World.cell?, hn]
  · simp [prsV] at hu; subst hu; simp [World.cell?, hn]
  · simp [prsV] at hu
/-- 'l[k:]' -/
theorem slice_from (A : Option Addr) (n k c : Nat) (hk : k ≤ n) (hc : n ≤ c) : ∃ A', (∀ W, (Instr.sliceAt 35 (.slice A n c) (some (.int .i64 (k : Nat))) none none).run Tryz.prog W = .ok (.slice A' (n - k) (c - k)) W) ∧ (∀ W, (Instr.slice 35 (.slice A n c) (some (.int .i64 (k : Nat))) none none).run Tryz.prog W = .ok (.slice A' (n - k) (c - k)) W) ∧
    (∀ (W : World) (B : Nat) (l : List Pr), l.length = n → Prs W B A l → Prs W B A' (l.drop k)) ∧ ((A = none → c = 0) → A' = none → c - k = 0) := by
  have e2 : ∀ W, (Instr.slice 35 (.slice A n c) (some (.int .i64 (k : Nat))) none none).run Tryz.prog W = .ok (.slice (if c = k then A else A.map (·.add (k * 2))) (n - k) (c - k)) W := fun W => by
    rw [run_slice_l W 35 A n c (by kernel_rfl) .i64 (k : Nat) (by omega) (by omega)]
    rw [show Tryz.prog.elem 35 = 47 by kernel_rfl, show (sizeOf 47).run Tryz.prog W = .ok 2 W by kernel_rfl]
    simp [sliced, Result.andThen]
  refine ⟨if c = k then A else A.map (·.add (k * 2)), fun W => ?_, e2, fun W B l hl h => ?_, fun hA h => ?_⟩
  · rw [run_sliceAt_slice W 35 _ _ _ _ (by kernel_rfl)]
    exact e2 W
  · exact h.drop (by omega) (by omega)
  · by_cases he : c = k
    · omega
    · rw [if_neg he] at h
      cases A with
      | none => have := hA rfl; omega
      | some a => cases h
theorem own_below {w w1 w2 : World} {base : Nat} {e : TypeId} {n : Nat} {v : Value} {xs : List Value} (hb : Below base w w1) (hown : w1.ownsRow base e 2 v n xs) (hg : w1.grownBy w2 v.ownBlock) (hB : base ≤ w1.heap.size) : Below base w w2 :=
  hb.trans ⟨hg.os, hg.tape, hg.output, hg.size, fun k hk => hg.block k (by omega) (fun e => by
    rcases hown.2 with ⟨rfl, _⟩ | ⟨g, cap, cur, rfl, hge, _⟩
    · simp [Value.ownBlock] at e
    · have : k = g := by simpa [Value.ownBlock] using e
      omega)⟩
set_option maxHeartbeats 2000000 in
set_option maxRecDepth 100000 in
theorem refPut_at {w : World} {B c : Nat} {A : Option Addr} {l : List Pr} (h : Prs w B A l) (hB : B ≤ w.heap.size) (hA : A = none → c = 0) (hc : l.length ≤ c) (hl : l.length ≤ 4398046511103) (hs : Sized l) (p : Pr) (hk : p.1.size ≤ 9223372036854775807) :
    Calls Tryz.prog 56 #[.slice A l.length c, .agg #[.string p.1, .string p.2]] w fun e w' => ∃ v, e = .returned v ∧ w'.ownsRow w.heap.size 47 2 v (putL l p).length (prsV (putL l p)) ∧ Below w.heap.size w w' := by
  have hR := Lib.hid (fun W (hb : Below w.heap.size w W) => refRank_at (c := c) (h.below (hb.mono hB)) (Nat.le_trans hB hb.size) (by omega) hs p.1 hk)
  have hle := rankL_le l p.1
  obtain ⟨P, hP⟩ : ∃ P, putL l p = P := ⟨_, rfl⟩
  have hv : P = l.take (rankL l p.1) ++ p :: l.drop (if (l[rankL l p.1]?).map (·.1) = some p.1 then rankL l p.1 + 1 else rankL l p.1) := hP ▸ rfl
  rw [hP]
  have hH := Lib.hid h
  generalize rankL l p.1 = n at *
  obtain ⟨b, hb⟩ : ∃ b : Bool, ((l[n]?).map (·.1) = some p.1 ↔ b = true) := ⟨decide ((l[n]?).map (·.1) = some p.1), by simp⟩
  obtain ⟨n', hn'⟩ : ∃ n', n' = if b = true then n + 1 else n := ⟨_, rfl⟩
  have hv2 : P = l.take n ++ p :: l.drop n' := by
    rw [hv, hn']
    by_cases hq : (l[n]?).map (·.1) = some p.1
    · simp only [if_pos hq, if_pos (hb.1 hq)]
    · simp only [if_neg hq, if_neg (fun e => hq (hb.2 e))]
  have hbl : b = true → n < l.length := fun e => by
    have := hb.2 e
    by_cases h : n < l.length
    · exact h
    · rw [List.getElem?_eq_none (by omega)] at this; cases this
  have hn'l : n' ≤ l.length := by
    rw [hn']
    split
    · have := hbl ‹_›; omega
    · omega
  have hn'H := Lib.hid hn'
  have hblH := Lib.hid hbl
  clear hn' hbl
  have hAH := Lib.hid hA
  obtain ⟨A', sl1, sl2, hdr, hA'⟩ := slice_from A l.length n' c hn'l hc
  have hdrH := Lib.hid hdr
  have hA'H := Lib.hid (hA' hA)
  clear hdr hA'
  have htl : n = (l.take n).length := by rw [List.length_take]; omega
  have htlH := Lib.hid htl
  clear htl hA
  have hvH := Lib.hid hv2
  have hbH := Lib.hid hb
  clear h hs hP hv hv2 hb
  go_enter Tryz.func56, Tryz.ntmps56
  go_wp2_with fail
  have hb0 : Below w.heap.size w (w.alloc (Obj.cells #[Value.string p.1, Value.string p.2] 47)) := (Below.refl _ w).alloc (Nat.le_refl _) _
  have q0 : (w.alloc (Obj.cells #[Value.string p.1, Value.string p.2] 47)).cell? ⟨w.heap.size, 0, none⟩ = some (.string p.1) := by go_simp
  have q1 : (w.alloc (Obj.cells #[Value.string p.1, Value.string p.2] 47)).cell? ⟨w.heap.size, 1, none⟩ = some (.string p.2) := by go_simp
  refine (hR.out _ hb0).mono ?_
  rintro e w1 ⟨rfl, hb1⟩
  have hbw1 := hb0.trans (hb1.mono hb0.size)
  have r0 := (hb1.cell (p := ⟨w.heap.size, 0, none⟩) (cell_lt q0)).trans q0
  have r1 := (hb1.cell (p := ⟨w.heap.size, 1, none⟩) (cell_lt q1)).trans q1
  have hlt1 : w.heap.size < w1.heap.size := cell_lt (a := ⟨w.heap.size, 0, none⟩) r0
  have hbwH := Lib.hid hbw1
  clear hb1 hbw1 q0 q1 hb0
  have hown0 := Lib.hid (own_empty w1 47)
  have hP1 := Lib.hid ((hH.out.below (hbwH.out.mono hB)).more (Nat.le_trans hB hbwH.out.size))
  have r0H := Lib.hid r0
  have tok : True := trivial
  go_wp2_with (first
    | (at_builtin; have _t := tok; go_must (refine app_prs rfl (.tmp 11) (.tmp 14) rfl _ w1.heap.size _ [] rfl hown0.out w1.heap.size A n c (l.take n) rfl htlH.out ((hP1.out.below ((Below.refl _ w1).alloc (Nat.le_refl _) _)).take n) hAH.out (by simp; omega) (by simp) ?_); intro v2 w2 hown2 hg2 _; clear tok; have hb2 := own_below ((Below.refl _ w1).alloc (Nat.le_refl _) _) hown0.out hg2 (by simp); have s0 := (hb2.cell (p := ⟨w.heap.size, 0, none⟩) (cell_lt r0)).trans r0; have s1 := (hb2.cell (p := ⟨w.heap.size, 1, none⟩) (cell_lt r1)).trans r1; have hb2H := Lib.hid hb2; have hown2H := Lib.hid hown2; clear hb2 hown2 hg2 r0 r1)
    | (at_builtin; go_must (refine app_prs rfl (.tmp 16) (.tmp 18) rfl _ w1.heap.size _ ([] ++ l.take n) rfl (hown2H.out.alloc _) (w2.heap.size + 1) _ 1 1 [p] rfl rfl (prs_one w2 p) (fun e => by cases e) (by simp; omega) (by have := hb2H.out.size; simp; omega) ?_); intro v3 w3 hown3 hg3 _; have hb3 := own_below (hb2H.out.alloc hb2H.out.size _) (hown2H.out.alloc _) hg3 (by have := hb2H.out.size; simp; omega)))
  have hb3H := Lib.hid hb3
  have hown3H := Lib.hid hown3
  have u0 := (hb3.cell (p := ⟨w.heap.size, 0, none⟩) (cell_lt r0H.out)).trans r0H.out
  have hP3 := Lib.hid (hP1.out.below hb3)
  clear hb3 hown3 hg3 s0 s1
  have hP4 := Lib.hid (hdrH.out w3 w1.heap.size l rfl hP3.out)
  have hdl : Hid (l.length - n' = (l.drop n').length) := Lib.hid (by rw [List.length_drop])
  have hP5 : Hid (P = [] ++ l.take n ++ [p] ++ l.drop n') := Lib.hid (by rw [hvH.out]; simp)
  by_cases hlt : n < l.length
  · have hd : decide (n < l.length) = true := by simp; omega
    obtain ⟨bb, oo, hAs, _, c1, _⟩ := hP3.out.at' hlt
    subst hAs
    have hsb := str_beq l[n].1 p.1
    have hbn := hbH.out
    rw [List.getElem?_eq_getElem hlt, Option.map_some, Option.some.injEq] at hbn
    generalize l[n] = pn at *
    cases b with
    | true =>
      have hq : (pn.1.toList == p.1.toList) = true := by rw [hsb]; exact decide_eq_true (hbn.2 rfl)
      rw [if_pos rfl] at hn'H
      have hn2 := hn'H.out
      subst hn2
      clear hbn hsb hn'H
      push_cast at sl1 sl2
      go_wp2
      go_quiet (fail)
      go_wp2_with (at_builtin; go_must (refine app_prs rfl (.tmp 36) (.tmp 39) rfl _ w1.heap.size _ ([] ++ l.take n ++ [p]) rfl hown3H.out w1.heap.size A' _ _ (l.drop (n + 1)) rfl hdl.out hP4.out hA'H.out (by simp; omega) hb3H.out.size ?_); intro v4 w4 hown4 hg4 _)
      have hb4 := Lib.hid (own_below (hb3H.out.trans ((Tx.drewN_below w3 _).mono hb3H.out.size)) hown3H.out hg4 hb3H.out.size)
      rw [← hP5.out] at hown4
      have hfin := Lib.hid (own_lower hown4 hbwH.out.size)
      go_ret
      exact ⟨v4, rfl, hfin.out, hbwH.out.trans (hb4.out.mono hbwH.out.size)⟩
    | false =>
      have hq : (pn.1.toList == p.1.toList) = false := by
        rw [hsb]
        refine decide_eq_false (fun e => ?_)
        have := hbn.1 e
        cases this
      rw [if_neg (by simp)] at hn'H
      have hn2 := hn'H.out
      subst hn2
      clear hbn hsb hn'H
      go_wp2
      go_quiet (fail)
      go_wp2_with (at_builtin; go_must (refine app_prs rfl (.tmp 36) (.tmp 39) rfl _ w1.heap.size _ ([] ++ l.take n' ++ [p]) rfl hown3H.out w1.heap.size A' _ _ (l.drop (n')) rfl hdl.out hP4.out hA'H.out (by simp; omega) hb3H.out.size ?_); intro v4 w4 hown4 hg4 _)
      have hb4 := Lib.hid (own_below (hb3H.out.trans ((Tx.drewN_below w3 _).mono hb3H.out.size)) hown3H.out hg4 hb3H.out.size)
      rw [← hP5.out] at hown4
      have hfin := Lib.hid (own_lower hown4 hbwH.out.size)
      go_ret
      exact ⟨v4, rfl, hfin.out, hbwH.out.trans (hb4.out.mono hbwH.out.size)⟩
  · have hd : decide (n < l.length) = false := by simp; omega
    have hbf : b = false := by
      cases b with
      | true => exact absurd (hblH.out rfl) hlt
      | false => rfl
    rw [hbf, if_neg (by simp)] at hn'H
    have hn2 := hn'H.out
    subst hn2
    clear hn'H hbf hlt
    go_wp2
    go_quiet (fail)
    go_wp2_with (at_builtin; go_must (refine app_prs rfl (.tmp 36) (.tmp 39) rfl _ w1.heap.size _ ([] ++ l.take n' ++ [p]) rfl hown3H.out w1.heap.size A' _ _ (l.drop (n')) rfl hdl.out hP4.out hA'H.out (by simp; omega) hb3H.out.size ?_); intro v4 w4 hown4 hg4 _)
    have hb4 := Lib.hid (own_below (hb3H.out.trans ((Tx.drewN_below w3 _).mono hb3H.out.size)) hown3H.out hg4 hb3H.out.size)
    rw [← hP5.out] at hown4
    have hfin := Lib.hid (own_lower hown4 hbwH.out.size)
    go_ret
    exact ⟨v4, rfl, hfin.out, hbwH.out.trans (hb4.out.mono hbwH.out.size)⟩
end Go.Proofs.YtoifdmbffaaffaaGreatDoor
/- loftref11: Sorted, Long. -/
set_option linter.unusedVariables false
set_option linter.unusedSimpArgs false
namespace Go.Proofs.YtoifdmbffaaffaaGreatDoor
open Go.RowKit Go.Shelf
theorem own_pairs {w : World} {base n : Nat} {v : Value} {l : List Pr} (h : w.ownsRow base 47 2 v n (prsV l)) (hn : n = l.length) : ∃ A c, v = .slice A l.length c ∧ (A = none → c = 0) ∧ l.length ≤ c ∧ Prs w w.heap.size A l := by
  subst hn
  rcases h.2 with ⟨h1, h0⟩ | ⟨g, cap, cur, h1, h2, h3, h4, _⟩
  · have : l = [] := List.eq_nil_of_length_eq_zero h0
    subst this
    exact ⟨none, 0, h1, fun _ => rfl, Nat.le_refl _, .inl rfl⟩
  · refine ⟨some ⟨g, 0, none⟩, cap, h1, (fun e => by cases e), h4, ?_⟩
    rw [h1] at h
    exact Prs.of_own h rfl
def sortedL (l : List Pr) : List Pr := l.foldl putL []
theorem sortedL_snoc (l : List Pr) (k : Nat) (h : k < l.length) : sortedL (l.take (k + 1)) = putL (sortedL (l.take k)) l[k] := by
  unfold sortedL
  rw [List.take_succ_eq_append_getElem h, List.foldl_append]
  rfl
theorem foldl_putL_len : ∀ (l m : List Pr), (l.foldl putL m).length ≤ m.length + l.length
  | [], m => by simp
  | p :: l, m => by
    have h1 := foldl_putL_len l (putL m p)
    have h2 := putL_len m p
    simp only [List.foldl_cons, List.length_cons]
    omega
theorem sortedL_len (l : List Pr) : (sortedL l).length ≤ l.length := by
  have := foldl_putL_len l []
  simp only [List.length_nil, Nat.zero_add] at this
  exact this
theorem foldl_putL_mem : ∀ (l m : List Pr) (q : Pr), q ∈ l.foldl putL m → q ∈ m ∨ q ∈ l
  | [], m, q, h => .inl h
  | p :: l, m, q, h => by
    rcases foldl_putL_mem l (putL m p) q h with h | h
    · rcases putL_mem h with rfl | h
      · exact .inr (by simp)
      · exact .inl h
    · exact .inr (by simp [h])
theorem sortedL_mem {l : List Pr} {q : Pr} (h : q ∈ sortedL l) : q ∈ l := by
  rcases foldl_putL_mem l [] q h with h | h
  · simp at h
  · exact h
theorem Sized.sorted {l : List Pr} (h : Sized l) : Sized (sortedL l) := fun q hq => h q (sortedL_mem hq)
theorem Sized.take {l : List Pr} (h : Sized l) (k : Nat) : Sized (l.take k) := fun q hq => h q (List.mem_of_mem_take hq)
set_option maxHeartbeats 1000000 in
set_option maxRecDepth 100000 in
theorem refSorted_at {w : World} {B c : Nat} {A : Option Addr} {l : List Pr} (h : Prs w B A l) (hB : B ≤ w.heap.size) (hl : l.length ≤ 4398046511104) (hs : Sized l) :
    Calls Tryz.prog 20 #[.slice A l.length c] w fun e w' => ∃ v, e = .returned v ∧ w'.ownsRow w.heap.size 47 2 v (sortedL l).length (prsV (sortedL l)) ∧ Below w.heap.size w w' := by
  have hH := Lib.hid h
  have hsH := Lib.hid hs
  clear h hs
  go_enter Tryz.func20, Tryz.ntmps20
  go_wp2_with fail
  go_loopw [3, 4] (fun vv iv wr => ∃ k : Nat, k ≤ l.length ∧ iv = .int .i64 k ∧ Hid (wr.ownsRow w.heap.size 47 2 vv (sortedL (l.take k)).length (prsV (sortedL (l.take k)))) ∧ Hid (Below w.heap.size w wr)) (fun _ iv _ => l.length - (intOf iv).toNat)
  case atStart => exact ⟨0, by omega, rfl, Lib.hid (World.ownsRow_nil _ _ _ _), Lib.hid (Below.refl _ _)⟩
  case round =>
    obtain ⟨k, hk, rfl, hrow, hb⟩ := hrel
    by_cases hlt : k < l.length
    · obtain ⟨b, o, hA, _, c1, c2⟩ := (hH.out.below (hb.out.mono hB)).at' hlt
      have hsn := Lib.hid (sortedL_snoc l k hlt)
      have hp := Lib.hid (hsH.out _ (List.getElem_mem hlt))
      have hlen := sortedL_len (l.take k)
      rw [List.length_take] at hlen
      have hso := Lib.hid ((hsH.out.take k).sorted)
      generalize l[k] = p at *
      generalize sortedL (l.take k) = m at *
      obtain ⟨A2, cc, hv, hA2, hc2, hp2⟩ := own_pairs hrow.out rfl
      subst hv hA
      have hcall := Lib.hid (refPut_at (w := wr) (c := cc) hp2 (Nat.le_refl _) hA2 hc2 (by omega) hso.out p hp.out.1)
      clear hA2 hp2 hlen
      go_wp2_with fail
      refine hcall.out.mono ?_
      rintro e w1 ⟨v1, rfl, hrow1, hb1⟩
      have hrow1H := Lib.hid (own_lower hrow1 hb.out.size)
      have hb1H := Lib.hid (hb.out.trans (hb1.mono hb.out.size))
      clear hrow1 hb1
      go_wp2
      go_roundw
      case rel => exact ⟨k + 1, by omega, by go_num, by rw [hsn.out]; exact hrow1H, hb1H⟩
      case measure => simp [intOf]; omega
    · obtain rfl : k = l.length := by omega
      have hfin : Hid (sortedL (l.take l.length) = sortedL l) := Lib.hid (by rw [List.take_length])
      go_wp2
      go_ret
      exact ⟨_, rfl, by rw [← hfin.out]; exact hrow.out, hb.out⟩
/-- is a text in a list longer than there may be? -/
def longL (l : List Pr) : Bool := l.any fun p => decide (1000 < p.1.size) || decide (1000 < p.2.size)
set_option maxRecDepth 100000 in
theorem refLong_at {w : World} {B c : Nat} {A : Option Addr} {l : List Pr} (h : Prs w B A l) (hl : l.length ≤ 9223372036854775807) (hs : Sized l) :
    Calls Tryz.prog 21 #[.slice A l.length c] w fun e w' => e = .returned (.bool (longL l)) ∧ w = w' := by
  have hH := Lib.hid h
  have hsH := Lib.hid hs
  obtain ⟨z, hz⟩ : ∃ z, longL l = z := ⟨_, rfl⟩
  have hzH := Lib.hid hz
  rw [hz]
  clear h hs hz
  go_enter Tryz.func21, Tryz.ntmps21
  go_wp2_with fail
  go_loopw [3] (fun iv wr => ∃ k : Nat, k ≤ l.length ∧ iv = .int .i64 k ∧ wr = w ∧ Hid (longL (l.take k) = false)) (fun iv _ => l.length - (intOf iv).toNat)
  case atStart => exact ⟨0, by omega, rfl, rfl, Lib.hid rfl⟩
  case round =>
    obtain ⟨k, hk, rfl, rfl, hno⟩ := hrel
    by_cases hlt : k < l.length
    · obtain ⟨b, o, hA, _, c1, c2⟩ := hH.out.at' hlt
      obtain ⟨hp1, hp2⟩ := hsH.out _ (List.getElem_mem hlt)
      have hsn : Hid (longL (l.take (k + 1)) = (longL (l.take k) || (decide (1000 < l[k].1.size) || decide (1000 < l[k].2.size)))) := Lib.hid (by
        unfold longL
        rw [List.take_succ_eq_append_getElem hlt, List.any_append]
        simp)
      have hall : Hid (∀ p, p = l[k] → (1000 < p.1.size ∨ 1000 < p.2.size) → z = true) := Lib.hid (fun p hp hq => by
        rw [← hzH.out]
        unfold longL
        rw [List.any_eq_true]
        exact ⟨p, by rw [hp]; exact List.getElem_mem hlt, by simpa using hq⟩)
      generalize l[k] = p at *
      subst hA
      by_cases h1 : 1000 < p.1.size
      · have hz1 := Lib.hid (hall.out p rfl (.inl h1))
        go_wp2
        go_ret
        exact ⟨by rw [hz1.out]; rfl, rfl⟩
      · by_cases h2 : 1000 < p.2.size
        · have hz1 := Lib.hid (hall.out p rfl (.inr h2))
          go_wp2
          go_ret
          exact ⟨by rw [hz1.out]; rfl, rfl⟩
        · go_wp2
          go_roundw
          case rel => exact ⟨k + 1, by omega, by go_num, trivial, Lib.hid (by rw [hsn.out, hno.out]; simp [h1, h2])⟩
          case measure => simp [intOf]; omega
    · obtain rfl : k = l.length := by omega
      have hz1 : Hid (z = false) := Lib.hid (by rw [← hzH.out, ← hno.out, List.take_length])
      go_wp2
      go_ret
      exact ⟨by rw [hz1.out]; rfl, rfl⟩
end Go.Proofs.YtoifdmbffaaffaaGreatDoor
/- loftlaw11.grow: plain part, slices off a store's blocks. -/
set_option linter.unusedVariables false
set_option linter.unusedSimpArgs false
namespace Go.Proofs.YtoifdmbffaaffaaGreatDoor
open Go.RowKit Go.Shelf
/-- what a tree that was made leaves of the records -/
structure GrowOut (R R' : Nat → Option (List Nat)) (t : BT) : Prop where
  at' : t.At R'
  nodup : t.hs.Nodup
  fresh : ∀ x ∈ t.hs, R x = none
  old : ∀ x, x ∉ t.hs → R' x = R x
  nz : ∀ x ∈ t.hs, x ≠ 0
theorem BT.At.congr {R R' : Nat → Option (List Nat)} : ∀ {t : BT}, t.At R → (∀ x ∈ t.hs, R' x = R x) → t.At R'
  | .nil, _, _ => trivial
  | .node h kh vh m k v l r, ⟨h1, h2, h3, h4, h5, h6, hl, hr⟩, he => by
    simp only [BT.hs, List.mem_append, List.mem_cons] at he
    exact ⟨h1, (he h (by simp)).trans h2, (he kh (by simp)).trans h3, (he vh (by simp)).trans h4, h5, h6, hl.congr (fun x hx => he x (.inl hx)), hr.congr (fun x hx => he x (.inr (.inr (.inr (.inr hx)))))⟩
theorem GrowOut.nil (R : Nat → Option (List Nat)) : GrowOut R R .nil := ⟨trivial, List.nodup_nil, fun x hx => by simp [BT.hs] at hx, fun x _ => rfl, fun x hx => by simp [BT.hs] at hx⟩
theorem GrowOut.some {R R' : Nat → Option (List Nat)} {t : BT} (g : GrowOut R R' t) {x : Nat} (hx : x ∈ t.hs) : R' x ≠ none := BT.hs_in t g.at' x hx
theorem GrowOut.keep {R R' : Nat → Option (List Nat)} {t : BT} (g : GrowOut R R' t) {x : Nat} (hx : R x ≠ none) : R' x = R x := g.old x (fun h => hx (g.fresh x h))
/-- a node over two trees that were made one behind the other -/
theorem grow_plain {R R3 R4 : Nat → Option (List Nat)} {xk xv h : Nat} {k v : ByteArray} {tl tr : BT} (hk : R xk = none) (k0 : xk ≠ 0) (hv : updR R xk (some (Tx.wordsL k.data.toList)) xv = none) (v0 : xv ≠ 0)
    (gl : GrowOut (updR (updR R xk (some (Tx.wordsL k.data.toList))) xv (some (Tx.wordsL v.data.toList))) R3 tl) (gr : GrowOut R3 R4 tr) (hh : R4 h = none) (h0 : h ≠ 0) (hks : k.size ≤ 1000) (hvs : v.size ≤ 1000) (m : Nat) :
    GrowOut R (updR R4 h (some (Nd.ws ⟨xk, xv, tl.root, tr.root, m, tl.size + 1 + tr.size⟩))) (.node h xk xv m k v tl tr) := by
  have hkv : xk ≠ xv := fun e => by rw [← e, updR_same] at hv; cases hv
  have hv2 : R xv = none := (updR_other (fun e => hkv e.symm)).symm.trans hv
  have e2k : updR (updR R xk (some (Tx.wordsL k.data.toList))) xv (some (Tx.wordsL v.data.toList)) xk = some (Tx.wordsL k.data.toList) := by rw [updR_other hkv, updR_same]
  have e2v : updR (updR R xk (some (Tx.wordsL k.data.toList))) xv (some (Tx.wordsL v.data.toList)) xv = some (Tx.wordsL v.data.toList) := updR_same _ _ _
  have e3k : R3 xk = some (Tx.wordsL k.data.toList) := by rw [gl.keep (by rw [e2k]; simp), e2k]
  have e3v : R3 xv = some (Tx.wordsL v.data.toList) := by rw [gl.keep (by rw [e2v]; simp), e2v]
  have e4k : R4 xk = some (Tx.wordsL k.data.toList) := by rw [gr.keep (by rw [e3k]; simp), e3k]
  have e4v : R4 xv = some (Tx.wordsL v.data.toList) := by rw [gr.keep (by rw [e3v]; simp), e3v]
  have hhk : xk ≠ h := fun e => by rw [e, hh] at e4k; cases e4k
  have hhv : xv ≠ h := fun e => by rw [e, hh] at e4v; cases e4v
  have hl4 : ∀ x ∈ tl.hs, R4 x = R3 x := fun x hx => gr.keep (gl.some hx)
  have hlh : ∀ x ∈ tl.hs, x ≠ h := fun x hx e => by
    have := gl.some hx
    rw [← hl4 x hx, e, hh] at this
    exact this rfl
  have hrh : ∀ x ∈ tr.hs, x ≠ h := fun x hx e => by
    have := gr.some hx
    rw [e, hh] at this
    exact this rfl
  have fl : ∀ x ∈ tl.hs, x ≠ xk ∧ x ≠ xv ∧ R x = none := fun x hx => by
    have h1 := gl.fresh x hx
    have a1 : x ≠ xv := fun e => by rw [e, e2v] at h1; cases h1
    have a2 : x ≠ xk := fun e => by rw [e, e2k] at h1; cases h1
    rw [updR_other a1, updR_other a2] at h1
    exact ⟨a2, a1, h1⟩
  have fr : ∀ x ∈ tr.hs, x ≠ xk ∧ x ≠ xv ∧ x ∉ tl.hs ∧ R x = none := fun x hx => by
    have h1 := gr.fresh x hx
    have a1 : x ≠ xv := fun e => by rw [e, e3v] at h1; cases h1
    have a2 : x ≠ xk := fun e => by rw [e, e3k] at h1; cases h1
    have a3 : x ∉ tl.hs := fun e => gl.some e h1
    rw [gl.old x a3, updR_other a1, updR_other a2] at h1
    exact ⟨a2, a1, a3, h1⟩
  have fh : h ∉ tl.hs ∧ h ∉ tr.hs := ⟨fun e => hlh h e rfl, fun e => hrh h e rfl⟩
  have hRh : R h = none := by
    have h1 := hh
    rw [gr.old h fh.2, gl.old h fh.1, updR_other (fun e => hhv e.symm), updR_other (fun e => hhk e.symm)] at h1
    exact h1
  refine ⟨⟨h0, updR_same _ _ _, ?_, ?_, hks, hvs, ?_, ?_⟩, ?_, ?_, ?_, ?_⟩
  · rw [updR_other hhk, e4k]
  · rw [updR_other hhv, e4v]
  · exact gl.at'.congr fun x hx => by rw [updR_other (hlh x hx), hl4 x hx]
  · exact gr.at'.congr fun x hx => by rw [updR_other (hrh x hx)]
  · simp only [BT.hs]
    rw [List.nodup_append]
    refine ⟨gl.nodup, ?_, ?_⟩
    · simp only [List.nodup_cons, List.mem_cons, not_or]
      exact ⟨⟨fun e => hhk e.symm, fun e => hhv e.symm, fh.2⟩, ⟨hkv, fun e => (fr xk e).1 rfl⟩, fun e => (fr xv e).2.1 rfl, gr.nodup⟩
    · intro a ha b hb
      simp only [List.mem_cons] at hb
      rcases hb with rfl | rfl | rfl | hb
      · exact hlh a ha
      · exact (fl a ha).1
      · exact (fl a ha).2.1
      · rintro rfl
        exact (fr a hb).2.2.1 ha
  · intro x hx
    simp only [BT.hs, List.mem_append, List.mem_cons] at hx
    rcases hx with hx | rfl | rfl | rfl | hx
    · exact (fl x hx).2.2
    · exact hRh
    · exact hk
    · exact hv2
    · exact (fr x hx).2.2.2
  · intro x hx
    simp only [BT.hs, List.mem_append, List.mem_cons, not_or] at hx
    obtain ⟨x1, x2, x3, x4, x5⟩ := hx
    rw [updR_other x2, gr.old x x5, gl.old x x1, updR_other x4, updR_other x3]
  · intro x hx
    simp only [BT.hs, List.mem_append, List.mem_cons] at hx
    rcases hx with hx | rfl | rfl | rfl | hx
    · exact gl.nz x hx
    · exact h0
    · exact k0
    · exact v0
    · exact gr.nz x hx
/-- a slice whose cells are these, in a block off F -/
def CellsF (w : World) (F : Nat → Prop) (A : Option Addr) (vs : List Value) : Prop :=
  vs = [] ∨ ∃ b o, A = some ⟨b, o, none⟩ ∧ b < w.heap.size ∧ ¬ F b ∧ ∀ j u, vs[j]? = some u → w.cell? ⟨b, o + j, none⟩ = some u
section
variable {w w' : World} {F F' : Nat → Prop} {A : Option Addr} {vs : List Value}
theorem CellsF.turn (h : CellsF w F A vs) (ht : Turn w F w' F') : CellsF w' F' A vs := by
  rcases h with h | ⟨b, o, h1, h2, h3, h4⟩
  · exact .inl h
  · exact .inr ⟨b, o, h1, Nat.lt_of_lt_of_le h2 ht.size, ht.not h2 h3, fun j u hu => ht.cell (h4 j u hu) h3⟩
theorem CellsF.at' (h : CellsF w F A vs) {k : Nat} {u : Value} (hk : vs[k]? = some u) : ∃ b o, A = some ⟨b, o, none⟩ ∧ w.cell? ⟨b, o + k, none⟩ = some u := by
  rcases h with rfl | ⟨b, o, h1, h2, h3, h4⟩
  · simp at hk
  · exact ⟨b, o, h1, h4 k u hk⟩
theorem CellsF.take (h : CellsF w F A vs) (k : Nat) : CellsF w F A (vs.take k) := by
  rcases h with rfl | ⟨b, o, h1, h2, h3, h4⟩
  · left; simp
  · refine .inr ⟨b, o, h1, h2, h3, fun j u hu => h4 j u ?_⟩
    rw [List.getElem?_take] at hu
    split at hu
    · exact hu
    · cases hu
theorem CellsF.pairs {l : List Pr} (h : CellsF w F A (prsV l)) {k : Nat} (hk : k < l.length) : ∃ b o, A = some ⟨b, o, none⟩ ∧ w.cell? ⟨b, o + k * 2, none⟩ = some (.string l[k].1) ∧ w.cell? ⟨b, o + k * 2 + 1, none⟩ = some (.string l[k].2) := by
  obtain ⟨h1, h2⟩ := prsV_at l k hk
  obtain ⟨b, o, e, hc⟩ := h.at' h1
  obtain ⟨b', o', e', hc'⟩ := h.at' h2
  rw [e] at e'
  cases e'
  exact ⟨b, o, e, hc, by rw [Nat.add_assoc]; exact hc'⟩
theorem CellsF.of_prs {B : Nat} {l : List Pr} (h : Prs w B A l) (hB : B ≤ w.heap.size) (hF : ∀ b, F b → B ≤ b) : CellsF w F A (prsV l) := by
  rcases h with rfl | ⟨b, o, h1, h2, h3⟩
  · exact .inl rfl
  · exact .inr ⟨b, o, h1, by omega, fun hf => by have := hF b hf; omega, h3⟩
end
/-- 'l[k:]' of pairs -/
theorem slice_fromF (A : Option Addr) (n k c : Nat) (hk : k ≤ n) (hc : n ≤ c) : ∃ A', (∀ W, (Instr.sliceAt 35 (.slice A n c) (some (.int .i64 (k : Nat))) none none).run Tryz.prog W = .ok (.slice A' (n - k) (c - k)) W) ∧ (∀ W, (Instr.slice 35 (.slice A n c) (some (.int .i64 (k : Nat))) none none).run Tryz.prog W = .ok (.slice A' (n - k) (c - k)) W) ∧
    (∀ (W : World) (F : Nat → Prop) (l : List Pr), l.length = n → CellsF W F A (prsV l) → CellsF W F A' (prsV (l.drop k))) ∧ ((A = none → c = 0) → A' = none → c - k = 0) := by
  have e2 : ∀ W, (Instr.slice 35 (.slice A n c) (some (.int .i64 (k : Nat))) none none).run Tryz.prog W = .ok (.slice (if c = k then A else A.map (·.add (k * 2))) (n - k) (c - k)) W := fun W => by
    rw [run_slice_l W 35 A n c (by kernel_rfl) .i64 (k : Nat) (by omega) (by omega)]
    rw [show Tryz.prog.elem 35 = 47 by kernel_rfl, show (sizeOf 47).run Tryz.prog W = .ok 2 W by kernel_rfl]
    simp [sliced, Result.andThen]
  refine ⟨if c = k then A else A.map (·.add (k * 2)), fun W => ?_, e2, fun W F l hl h => ?_, fun hA h => ?_⟩
  · rw [run_sliceAt_slice W 35 _ _ _ _ (by kernel_rfl)]
    exact e2 W
  · by_cases he : k = l.length
    · subst he; left; rw [List.drop_length]; rfl
    · rcases h with h | ⟨b, o, rfl, hb, hF, hcell⟩
      · have : l = [] := by
          cases l with
          | nil => rfl
          | cons p l => simp [prsV] at h
        subst this
        left; simp [prsV]
      · rw [if_neg (by omega)]
        refine .inr ⟨b, o + k * 2, ?_, hb, hF, fun j u hu => ?_⟩
        · show some ((⟨b, o, none⟩ : Addr).add (k * 2)) = _
          unfold Addr.add; split <;> simp_all
        · rw [Nat.add_assoc]
          refine hcell _ _ ?_
          rw [prsV_drop, List.getElem?_drop] at hu
          exact hu
  · by_cases he : c = k
    · omega
    · rw [if_neg he] at h
      cases A with
      | none => have := hA rfl; omega
      | some a => cases h
theorem StoreIs.more {w : World} {s : Nat} {F : Nat → Prop} {R : Nat → Option (List Nat)} {H : List Nat} {P P' q most last G G' : Nat} (h : StoreIs w s F R H P q most last G) (hP : P ≤ P') (hG : G ≤ G') : StoreIs w s F R H P' q most last G' := by
  obtain ⟨a, ha, t, v, L, mem, sl, Fh, h⟩ := h
  exact ⟨a, ha, t, v, L, mem, sl, Fh, { h with pages := Nat.le_trans h.pages hP, gens := fun x hx => Nat.le_trans (h.gens x hx) hG }⟩
def intsV (zs : List Int) : List Value := zs.map fun z => .int .i64 z
theorem pgsN_le {n : Nat} (h : n ≤ 128) : pgsN n ≤ 3 := by unfold pgsN; split <;> omega
theorem words_le {b : ByteArray} (h : b.size ≤ 1000) : (Tx.wordsL b.data.toList).length ≤ 126 := by
  rw [Tx.wordsL_length, Tx.size_list]
  unfold Tx.many
  omega
end Go.Proofs.YtoifdmbffaaffaaGreatDoor
/- Sorted lists rise; what making a tree keeps: plain law. -/
set_option linter.unusedVariables false
set_option linter.unusedSimpArgs false
namespace Go.Proofs.YtoifdmbffaaffaaGreatDoor
open Go.RowKit Go.Shelf
theorem rank_split {k : ByteArray} : ∀ {l : List Pr}, Rising l → (∀ q ∈ l.take (rankL l k), Tx.cmp q.1 k < 0) ∧ (∀ q ∈ l.drop (rankL l k), ¬ Tx.cmp q.1 k < 0)
  | [], _ => ⟨fun q hq => by simp at hq, fun q hq => by simp at hq⟩
  | p :: l, h => by
    have h' := List.pairwise_cons.1 h
    rw [rankL_cons]
    by_cases hp : Tx.cmp p.1 k < 0
    · rw [if_pos hp, List.take_succ_cons, List.drop_succ_cons]
      obtain ⟨h1, h2⟩ := rank_split (k := k) h'.2
      refine ⟨fun q hq => ?_, h2⟩
      rcases List.mem_cons.1 hq with rfl | hq
      · exact hp
      · exact h1 q hq
    · have hall : ∀ q ∈ l, ¬ Tx.cmp q.1 k < 0 := fun q hq e => hp (cmp_lt_trans (h'.1 q hq) e)
      rw [if_neg hp, rankL_none hall]
      refine ⟨fun q hq => by simp at hq, fun q hq => ?_⟩
      rcases List.mem_cons.1 hq with rfl | hq
      · exact hp
      · exact hall q hq
theorem putL_rising {l : List Pr} (h : Rising l) (p : Pr) : Rising (putL l p) := by
  obtain ⟨h1, h2⟩ := rank_split (k := p.1) h
  have hle := rankL_le l p.1
  unfold putL
  generalize rankL l p.1 = n at *
  have hgt : ∀ q ∈ l.drop (if (l[n]?).map (·.1) = some p.1 then n + 1 else n), Tx.cmp p.1 q.1 < 0 := by
    intro q hq
    have hsw := cmp_swap p.1 q.1
    have hdr : Rising (l.drop n) := List.Pairwise.sublist (List.drop_sublist n l) h
    by_cases hlt : n < l.length
    · have hd := List.drop_eq_getElem_cons hlt
      rw [List.getElem?_eq_getElem hlt] at hq
      simp only [Option.map_some, Option.some.injEq] at hq
      rw [hd] at hdr h2
      have hdr' := List.pairwise_cons.1 hdr
      by_cases he : l[n].1 = p.1
      · rw [if_pos he] at hq
        have := hdr'.1 q hq
        rw [he] at this
        exact this
      · rw [if_neg he, hd] at hq
        have h3 := h2 q hq
        have hn3 := h2 l[n] List.mem_cons_self
        rcases List.mem_cons.1 hq with rfl | hq
        · have : Tx.cmp l[n].1 p.1 ≠ 0 := fun e => he (cmp_zero.1 e)
          omega
        · have h4 := hdr'.1 q hq
          have : Tx.cmp l[n].1 p.1 ≠ 0 := fun e => he (cmp_zero.1 e)
          have h5 := cmp_swap p.1 l[n].1
          exact cmp_lt_trans (b := l[n].1) (by omega) h4
    · rw [List.getElem?_eq_none (by omega)] at hq
      simp only [Option.map_none, reduceCtorEq, if_false] at hq
      rw [List.drop_eq_nil_of_le (by omega)] at hq
      simp at hq
  unfold Rising
  rw [List.pairwise_append, List.pairwise_cons]
  refine ⟨List.Pairwise.sublist (List.take_sublist n l) h, ⟨hgt, List.Pairwise.sublist (List.drop_sublist _ l) h⟩, fun a ha b hb => ?_⟩
  have h3 := h1 a ha
  rcases List.mem_cons.1 hb with rfl | hb
  · exact h3
  · exact cmp_lt_trans h3 (hgt b hb)
theorem sortedL_rising (l : List Pr) : Rising (sortedL l) := by
  unfold sortedL
  suffices h : ∀ (l m : List Pr), Rising m → Rising (l.foldl putL m) from h l [] List.Pairwise.nil
  intro l
  induction l with
  | nil => exact fun m h => h
  | cons p l ih => exact fun m h => ih (putL m p) (putL_rising h p)
theorem BT.hs_short {R : Nat → Option (List Nat)} : ∀ (t : BT), t.At R → ∀ x ∈ t.hs, ∀ ws, R x = some ws → ws.length ≤ 200
  | .nil, _, x, hx, ws, hw => by simp [BT.hs] at hx
  | .node h kh vh m k v l r, ht, x, hx, ws, hw => by
    obtain ⟨h1, h2, h3, h4, h5, h6, hl, hr⟩ := ht
    simp only [BT.hs, List.mem_append, List.mem_cons] at hx
    rcases hx with hx | rfl | rfl | rfl | hx
    · exact BT.hs_short l hl x hx ws hw
    · rw [h2] at hw; cases hw; exact (by simp [Nd.ws] : (Nd.ws ⟨kh, vh, l.root, r.root, m, l.size + 1 + r.size⟩).length ≤ 200)
    · rw [h3] at hw; cases hw; have := words_le h5; omega
    · rw [h4] at hw; cases hw; have := words_le h6; omega
    · exact BT.hs_short r hr x hx ws hw
theorem GrowOut.short {R R' : Nat → Option (List Nat)} {t : BT} (g : GrowOut R R' t) (h : Short R) : Short R' := fun x ws hx => by
  by_cases hm : x ∈ t.hs
  · exact BT.hs_short t g.at' x hm ws hx
  · rw [g.old x hm] at hx; exact h x ws hx
theorem GrowOut.zero {R R' : Nat → Option (List Nat)} {t : BT} (g : GrowOut R R' t) (h : R 0 = none) : R' 0 = none := by
  rw [g.old 0 (fun e => g.nz 0 e rfl), h]
theorem Ints_off {w w' : World} {A : Option Addr} {vs : List Value} {F : Nat → Prop} {B : Nat} (h : CellsF w (fun b => B ≤ b) A vs) (hb : Below B w w') (hF : ∀ b, F b → B ≤ b) (hs : w.heap.size ≤ w'.heap.size) : CellsF w' F A vs := by
  rcases h with h | ⟨b, o, h1, h2, h3, h4⟩
  · exact .inl h
  · have h5 : b < B := Nat.lt_of_not_le h3
    exact .inr ⟨b, o, h1, by omega, fun hf => by have := hF b hf; omega, fun j u hu => (hb.cell (p := ⟨b, o + j, none⟩) h5).trans (h4 j u hu)⟩
end Go.Proofs.YtoifdmbffaaffaaGreatDoor
/- What the walk layer tells of a right tree, in its list's words. -/
set_option linter.unusedVariables false
set_option linter.unusedSimpArgs false
namespace Go.Proofs.YtoifdmbffaaffaaGreatDoor
open Go.RowKit Go.Shelf
/-- a right tree of pairs in a store that is only read -/
structure TreeR (N : Nat) (w : World) (s : Nat) (R : Nat → Option (List Nat)) (n : Nat) (t : BT) (l : List Pr) : Prop where
  rd : Rd N w s R n
  sh : Short R
  z : R 0 = none
  at' : t.At R
  prs : t.prs = l
  ris : Rising l
  nod : t.hs.Nodup
  sz : 8 * t.size ≤ n
def hasK (l : List Pr) (k : ByteArray) : Prop := (l[rankL l k]?).map (·.1) = some k
instance (l : List Pr) (k : ByteArray) : Decidable (hasK l k) := by unfold hasK; infer_instance
theorem hasK_lt {l : List Pr} {k : ByteArray} (h : hasK l k) : ∃ hl : rankL l k < l.length, l[rankL l k].1 = k := by
  unfold hasK at h
  by_cases hl : rankL l k < l.length
  · rw [List.getElem?_eq_getElem hl] at h
    exact ⟨hl, by simpa using h⟩
  · rw [List.getElem?_eq_none (by omega)] at h
    cases h
section
variable {w w' : World} {s N : Nat} {R : Nat → Option (List Nat)} {n : Nat} {t : BT} {l : List Pr}
theorem TreeR.below (h : TreeR N w s R n t l) (hb : Below w.heap.size w w') : TreeR N w' s R n t l := { h with rd := h.rd.below hb }
theorem TreeR.len (h : TreeR N w s R n t l) : t.size = l.length := by rw [← h.prs, BT.prs_len]
theorem TreeR.nodes_len (h : TreeR N w s R n t l) : t.nodes.length = l.length := by rw [BT.nodes_len, h.len]
theorem TreeR.le (h : TreeR N w s R n t l) : l.length ≤ 32768 := by
  have h1 := h.rd.le
  have h2 := h.sz
  have h3 := h.len
  omega
theorem TreeR.node_nz (h : TreeR N w s R n t l) {x : Nat} (hx : x ∈ t.nodes) : x ≠ 0 := fun e => by
  obtain ⟨nd, hnd⟩ := BT.nodes_six t h.at' x hx
  rw [e, h.z] at hnd
  cases hnd
theorem TreeR.root_lt (h : TreeR N w s R n t l) : t.root < 18446744073709551616 := BT.root_lt h.at' h.rd
theorem TreeR.node_lt (h : TreeR N w s R n t l) {x : Nat} (hx : x ∈ t.nodes) : x < 18446744073709551616 := by
  obtain ⟨nd, hnd⟩ := BT.nodes_six t h.at' x hx
  exact (h.rd.u64 hnd).1
theorem TreeR.rankR (h : TreeR N w s R n t l) (k : ByteArray) : Go.Proofs.YtoifdmbffaaffaaGreatDoor.rankR R n t.root k = (rankL l k : Nat) := by
  have h1 := h.rd.le
  have h2 := h.sz
  have := (BT.findR_at h.at' h.z (n := n) (by omega) (by omega) k).2
  rw [this, BT.rank_list k t (by rw [h.prs]; exact h.ris), h.prs]
theorem TreeR.findR (h : TreeR N w s R n t l) (k : ByteArray) : Go.Proofs.YtoifdmbffaaffaaGreatDoor.findR R n t.root k = if hasK l k then (t.nodes[rankL l k]?).getD 0 else 0 := by
  have h1 := h.rd.le
  have h2 := h.sz
  have := (BT.findR_at h.at' h.z (n := n) (by omega) (by omega) k).1
  rw [this, BT.find_list k t, BT.rank_list k t (by rw [h.prs]; exact h.ris), h.prs]
  rfl
theorem tfind_yes (h : TreeR N w s R n t l) {k : ByteArray} (hk : hasK l k) : ∃ hl : rankL l k < t.nodes.length, Calls Tryz.prog 74 #[.pointer (some ⟨s, 0, none⟩), .int .u64 (t.root : Nat), .string k] w fun e w' => e = .returned (.tuple #[.int .u64 (t.nodes[rankL l k] : Nat), .bool true]) ∧ Below w.heap.size w w' := by
  obtain ⟨hl, _⟩ := hasK_lt hk
  have hl2 : rankL l k < t.nodes.length := by rw [h.nodes_len]; exact hl
  refine ⟨hl2, ?_⟩
  have hf := find_at' h.rd h.sh t.root h.root_lt k
  rw [h.findR k, if_pos hk, List.getElem?_eq_getElem hl2] at hf
  have hnz := h.node_nz (List.getElem_mem hl2)
  rw [show ((some t.nodes[rankL l k]).getD 0 != 0) = true by simpa using hnz] at hf
  exact hf
theorem tfind_no (h : TreeR N w s R n t l) {k : ByteArray} (hk : ¬ hasK l k) : Calls Tryz.prog 74 #[.pointer (some ⟨s, 0, none⟩), .int .u64 (t.root : Nat), .string k] w fun e w' => e = .returned (.tuple #[.int .u64 0, .bool false]) ∧ Below w.heap.size w w' := by
  have hf := find_at' h.rd h.sh t.root h.root_lt k
  rw [h.findR k, if_neg hk] at hf
  exact hf
theorem trank_at (h : TreeR N w s R n t l) (k : ByteArray) : Calls Tryz.prog 76 #[.pointer (some ⟨s, 0, none⟩), .int .u64 (t.root : Nat), .string k] w fun e w' => e = .returned (.int .i64 (rankL l k : Nat)) ∧ Below w.heap.size w w' := by
  have hf := rank_at h.rd h.sh t.root h.root_lt k
  rw [h.rankR k] at hf
  exact hf
theorem tpair_at (h : TreeR N w s R n t l) {i : Nat} (hi : i < l.length) (hi2 : i < t.nodes.length) : Calls Tryz.prog 44 #[.pointer (some ⟨s, 0, none⟩), .int .u64 (t.nodes[i] : Nat)] w fun e w' => e = .returned (.tuple #[.agg #[.string l[i].1, .string l[i].2], .int .i64 0]) ∧ Below w.heap.size w w' := by
  have hi3 : i < t.ents.length := by have := congrArg List.length (BT.ents_nodes t); rw [List.length_map] at this; omega
  have e1 : t.nodes[i] = t.ents[i].h := by
    have : t.nodes[i]? = some (t.ents[i].h) := by rw [← BT.ents_nodes, List.getElem?_map, List.getElem?_eq_getElem hi3]; rfl
    rw [List.getElem?_eq_getElem hi2] at this
    exact Option.some.inj this
  have e2 : l[i] = (t.ents[i].k, t.ents[i].v) := by
    have : l[i]? = some (t.ents[i].k, t.ents[i].v) := by rw [← h.prs, ← BT.ents_prs, List.getElem?_map, List.getElem?_eq_getElem hi3]; rfl
    rw [List.getElem?_eq_getElem hi] at this
    exact Option.some.inj this
  have h1 := h.rd.le
  have h2 := h.sz
  obtain ⟨a1, a2, a3, a4, a5, _⟩ := BT.ents_at t h.at' (by omega) t.ents[i] (List.getElem_mem hi3)
  obtain ⟨p1, p2⟩ := En.At.pair a1 a2 a3 a4 a5
  have hp := pair_at h.rd h.sh t.nodes[i] (h.node_lt (List.getElem_mem hi2))
  rw [e1, p1, p2] at hp
  rw [e1, e2]
  exact hp
theorem tat_in (h : TreeR N w s R n t l) {i : Int} (h0 : 0 ≤ i) (hi : i < l.length) (hi2 : i.toNat < t.nodes.length) : Calls Tryz.prog 75 #[.pointer (some ⟨s, 0, none⟩), .int .u64 (t.root : Nat), .int .i64 i] w fun e w' => e = .returned (.tuple #[.int .u64 (t.nodes[i.toNat] : Nat), .int .i64 0]) ∧ Below w.heap.size w w' := by
  have h1 := h.rd.le
  have h2 := h.sz
  have h3 := h.len
  have hf := wat_at h.rd t.root h.root_lt i
  rw [BT.spotAt_at h.at' h.z (n := n) (by omega) (by omega) i, dif_pos ⟨h0, by omega⟩] at hf
  exact hf
theorem tat_out (h : TreeR N w s R n t l) {i : Int} (hi : ¬ (0 ≤ i ∧ i < l.length)) : Calls Tryz.prog 75 #[.pointer (some ⟨s, 0, none⟩), .int .u64 (t.root : Nat), .int .i64 i] w fun e w' => e = .returned (.tuple #[.int .u64 0, .int .i64 2]) ∧ Below w.heap.size w w' := by
  have h1 := h.rd.le
  have h2 := h.sz
  have h3 := h.len
  have hf := wat_at h.rd t.root h.root_lt i
  rw [BT.spotAt_at h.at' h.z (n := n) (by omega) (by omega) i, dif_neg (by rw [h3]; exact hi)] at hf
  exact hf
theorem tsize_at (h : TreeR N w s R n t l) : Calls Tryz.prog 29 #[.pointer (some ⟨s, 0, none⟩), .int .u64 (t.root : Nat)] w fun e w' => e = .returned (.int .i64 (l.length : Nat)) ∧ Below w.heap.size w w' := by
  have h1 := h.rd.le
  have h2 := h.sz
  have hf := size_at h.rd t.root h.root_lt
  rw [BT.tsize_at h.at' h.z (by omega), h.len] at hf
  exact hf
theorem tcheck_at (h : TreeR N w s R n t l) : Calls Tryz.prog 43 #[.pointer (some ⟨s, 0, none⟩), .int .u64 (t.root : Nat)] w fun e w' => e = .returned (.int .i64 0) ∧ Below w.heap.size w w' := by
  have h1 := h.rd.le
  have h2 := h.sz
  have hf := check_at h.rd h.sh t.root h.root_lt
  rw [BT.check_at h.at' (by rw [h.prs]; exact h.ris) h.nod (n := n) (by omega) (by omega)] at hf
  exact hf
theorem tlist_at (h : TreeR N w s R n t l) : Calls Tryz.prog 36 #[.pointer (some ⟨s, 0, none⟩), .int .u64 (t.root : Nat)] w fun e w' => ∃ v, e = .returned v ∧ w'.ownsRow w.heap.size 23 1 v l.length (hsV t.nodes) ∧ Below w.heap.size w w' := by
  have h1 := h.rd.le
  have h2 := h.sz
  have hf := list_at h.rd t.root h.root_lt
  rw [BT.inR_at h.at' (n := n) (by omega), h.nodes_len] at hf
  exact hf
end
end Go.Proofs.YtoifdmbffaaffaaGreatDoor
/- Words of the laws; a key of a tree's own. -/
set_option linter.unusedVariables false
set_option linter.unusedSimpArgs false
namespace Go.Proofs.YtoifdmbffaaffaaGreatDoor
open Go.RowKit Go.Shelf
theorem sized_of {l : List Pr} (h : longL l = false) : ∀ p ∈ l, p.1.size ≤ 1000 ∧ p.2.size ≤ 1000 := by
  intro p hp
  unfold longL at h
  rw [List.any_eq_false] at h
  have := h p hp
  simp at this
  exact this
theorem CellsF.prs {w : World} {F : Nat → Prop} {A : Option Addr} {l : List Pr} (h : CellsF w F A (prsV l)) : Prs w w.heap.size A l := by
  rcases h with h | ⟨b, o, h1, h2, h3, h4⟩
  · left
    cases l with
    | nil => rfl
    | cons p l => simp [prsV] at h
  · exact .inr ⟨b, o, h1, h2, h4⟩
def ILaw (w : World) (A : Option Addr) (l : List Pr) : Prop := CellsF w (fun b => w.heap.size ≤ b) A (prsV l) ∧ Sized l ∧ l.length ≤ 9223372036854775807
def IInts (w : World) (A : Option Addr) (zs : List Int) : Prop := CellsF w (fun b => w.heap.size ≤ b) A (intsV zs) ∧ zs.length ≤ 9223372036854775807 ∧ ∀ z ∈ zs, -9223372036854775808 ≤ z ∧ z ≤ 9223372036854775807
abbrev TrueB (w : World) : Ending → World → Prop := fun e w' => e = .returned (.bool true) ∧ Below w.heap.size w w'
theorem rank_own {l : List Pr} (h : Rising l) {i : Nat} (hi : i < l.length) : rankL l l[i].1 = i ∧ hasK l l[i].1 := by
  have hr : rankL l l[i].1 = i := by
    obtain ⟨h1, h2⟩ := rank_split (k := l[i].1) h
    have hle := rankL_le l l[i].1
    have hself : Tx.cmp l[i].1 l[i].1 = 0 := cmp_zero.2 rfl
    by_cases c1 : i < rankL l l[i].1
    · have := h1 l[i] (List.mem_take_iff_getElem.2 ⟨i, by omega, rfl⟩)
      omega
    · by_cases c2 : rankL l l[i].1 < i
      · have h3 := h2 (l[rankL l l[i].1]'(by omega)) (by rw [List.drop_eq_getElem_cons (by omega)]; exact List.mem_cons_self)
        have h4 := List.pairwise_iff_getElem.1 h _ _ (by omega) hi c2
        exact absurd h4 h3
      · omega
  refine ⟨hr, ?_⟩
  unfold hasK
  rw [hr, List.getElem?_eq_getElem hi]
  rfl
theorem tfind_own {w : World} {s N n : Nat} {R : Nat → Option (List Nat)} {t : BT} {l : List Pr} (h : TreeR N w s R n t l) {i : Nat} (hi : i < l.length) (hi2 : i < t.nodes.length) :
    Calls Tryz.prog 74 #[.pointer (some ⟨s, 0, none⟩), .int .u64 (t.root : Nat), .string l[i].1] w fun e w' => e = .returned (.tuple #[.int .u64 (t.nodes[i] : Nat), .bool true]) ∧ Below w.heap.size w w' := by
  obtain ⟨hrk, hhas⟩ := rank_own h.ris hi
  obtain ⟨_, hF⟩ := tfind_yes h hhas
  simp only [hrk] at hF
  exact hF
end Go.Proofs.YtoifdmbffaaffaaGreatDoor
/- What a law's row gives of the listed table; slices of pairs and of ints that come in. -/
set_option linter.unusedVariables false
set_option linter.unusedSimpArgs false
namespace Go.Proofs.YtoifdmbffaaffaaGreatDoor
open Go.ChangeShapes Go.WideShapes Go.ChangeAt Go.WideMaps Go.WideElems Go.RowKit Go.Deep
theorem own : ownKnob Tryz.prog.godebug = none := by kernel_rfl
theorem laidOut : laidOutB Tryz.prog = true := by kernel_rfl
theorem gTab : Tryz.prog.globalNamed "math/bits.deBruijn64tab" = some 1 := by kernel_rfl
theorem tTab : (Tryz.prog.globals[1]?).map (·.type) = some 225 := by kernel_rfl
abbrev laidL : List (String × DataW Unit) := [("math/bits.deBruijn64tab", Rows.laid_math_bits_deBruijn64tab)]
theorem laid_list : (Rows.laid_math_bits_deBruijn64tab : DataW Unit) = .agg (Lib.deBruijn64tab.map fun n => .lit (.int .u8 (n : Nat))) := rfl
/-- the door's own heap meets the condition -/
theorem door_met (os : Os) (args : Array Value) : laidMetH Tryz.prog laidL ((World.doorLaid Tryz.prog 400 os).forCall (fun _ _ => 0) ⟨#[], args, []⟩).memory :=
  laidMetH_of_parts3 (fuel := 8) (laidMet_of_run' 8 (by kernel_rfl) (by kernel_rfl)) (by kernel_rfl) (by kernel_rfl)
theorem of_laid {W : World} (h : laidMetH Tryz.prog laidL W) : Tab W := by
  rw [MakeChecks.laidMetH_plain _ _ _ (by kernel_rfl)] at h
  obtain ⟨ps, ⟨g0, t0, cs0, f0, p0, q0, hg0, ht0, hv0, hd0, _⟩, _⟩ := h
  obtain rfl := Option.some.inj (gTab.symm.trans hg0)
  obtain rfl := Option.some.inj (tTab.symm.trans ht0)
  obtain ⟨xs, m1, rfl, hx1, hlen, hn, hel⟩ := DataW.trod_array Tryz.underlying225 hd0
  have c5 : Tryz.prog.cellsOf 5 = 1 := by kernel_rfl
  simp only [Prod.mk.injEq] at hx1
  rw [laid_list] at hx1
  have hmap : xs.map (·.1) = Lib.deBruijn64tab.map fun n => DataW.lit (Lit.int .u8 (n : Nat)) := by
    have := hx1.1
    simp only [DataW.agg.injEq] at this
    exact this.symm
  intro j hj
  have hj64 : j < 64 := hj
  have hjx : j < xs.length := by omega
  have h0 := hel j hj64
  rw [List.getElem?_eq_getElem hjx, c5, Nat.mul_one] at h0
  obtain ⟨k, e1, e2, _⟩ := DataW.trod_int Tryz.underlying5 h0
  have h3 : (xs.map (·.1))[j]? = some (.lit (.int .u8 (Lib.deBruijn64tab.getD j 0 : Nat))) := by
    rw [hmap, List.getElem?_map, List.getElem?_eq_getElem hj]
    simp [List.getD_eq_getElem?_getD, List.getElem?_eq_getElem hj]
  rw [List.getElem?_map, List.getElem?_eq_getElem hjx, e2] at h3
  simp only [Option.map_some, Option.some.injEq, DataW.lit.injEq, Lit.int.injEq, true_and] at h3
  subst h3
  have hc := World.var?_cell hg0 hv0 j
  rw [hc]
  have hd : cs0.toList[j]? = some (.int .u8 (Lib.deBruijn64tab.getD j 0 : Nat)) := by
    have h5 : ((cs0.toList.drop j).take 1)[0]? = some (.int .u8 (Lib.deBruijn64tab.getD j 0 : Nat)) := by rw [e1]; rfl
    rw [List.getElem?_take, if_pos (by omega), List.getElem?_drop, Nat.add_zero] at h5
    exact h5
  simpa using hd
end Go.Proofs.YtoifdmbffaaffaaGreatDoor
/- Slices of pairs, of ints, as a law's row opens them. -/
set_option linter.unusedVariables false
set_option linter.unusedSimpArgs false
namespace Go.Proofs.YtoifdmbffaaffaaGreatDoor
open Go.ChangeShapes Go.WideShapes Go.ChangeAt Go.WideMaps Go.WideElems Go.RowKit Go.Deep
theorem int_bound {n : Int} (h : (Lit.int .i64 n).wf = true) : -9223372036854775808 ≤ n ∧ n ≤ 9223372036854775807 := by
  simpa [Lit.wf, IntKind.min, IntKind.max, IntKind.signed, IntKind.bits] using h
theorem prsV_inv : ∀ {l : List Pr} {j : Nat} {u : Value}, (prsV l)[j]? = some u → ∃ (i : Nat) (hi : i < l.length), (j = i * 2 ∧ u = .string l[i].1) ∨ (j = i * 2 + 1 ∧ u = .string l[i].2)
  | [], j, u, h => by simp [prsV] at h
  | p :: l, 0, u, h => by simp [prsV] at h; exact ⟨0, by simp, .inl ⟨rfl, h.symm⟩⟩
  | p :: l, 1, u, h => by simp [prsV] at h; exact ⟨0, by simp, .inr ⟨rfl, h.symm⟩⟩
  | p :: l, j + 2, u, h => by
    obtain ⟨i, hi, hh⟩ := prsV_inv (l := l) (j := j) (u := u) (by simpa [prsV] using h)
    refine ⟨i + 1, by simpa using hi, ?_⟩
    rcases hh with ⟨h1, h2⟩ | ⟨h1, h2⟩
    · exact .inl ⟨by omega, h2⟩
    · exact .inr ⟨by omega, h2⟩
theorem addr_add (b o j : Nat) : (⟨b, o, none⟩ : Addr).add j = ⟨b, o + j, none⟩ := by unfold Addr.add; split <;> simp_all
section
variable {H : Type} {enc : TypeId × Value → H} {w : World} {base : Nat} {held : Bool}
theorem open_prs {fuel : Nat} {cs : List Value} {x : DataW H × List MemPlace} (h : DataW.trod enc Tryz.prog w base (fun _ => true) held fuel 35 cs = some x) : ∃ A len cap l, cs = [.slice A len cap] ∧ len = l.length ∧ ILaw w A l := by
  rcases open_slice_pairs Tryz.underlying35 Tryz.underlying47 (by kernel_rfl) rfl rfl (by kernel_rfl) (by kernel_rfl) h with ⟨hcs, _⟩ | ⟨a, len, cap, m, n, V0, V1, D0, D1, P0, P1, hcs, hb, hl, hm, hmm, _, hx⟩
  · exact ⟨none, 0, 0, [], hcs, rfl, .inl rfl, fun p hp => by simp at hp, by simp⟩
  · have hmc : m = cap := by simpa using hmm
    subst hmc
    have hS : ∀ i, ∃ p : Pr, i < m → V0 i = .string p.1 ∧ V1 i = .string p.2 ∧ p.1.size ≤ maxLen ∧ p.2.size ≤ maxLen := fun i => by
      by_cases hi : i < m
      · obtain ⟨h1, h2, h3, h4⟩ := hx i hi
        obtain ⟨s0, e0, _, z0⟩ := DataW.trod_string Tryz.underlying9 h3
        obtain ⟨s1, e1, _, z1⟩ := DataW.trod_string Tryz.underlying9 h4
        exact ⟨(s0, s1), fun _ => ⟨by simpa using e0, by simpa using e1, z0, z1⟩⟩
      · exact ⟨(⟨#[]⟩, ⟨#[]⟩), fun hh => absurd hh hi⟩
    obtain ⟨f, hf⟩ := Classical.axiomOfChoice hS
    have hll : ((List.range len).map f).length = len := by simp
    unfold maxLen at hm
    refine ⟨some a, len, m, (List.range len).map f, hcs, hll.symm, ?_, ?_, by rw [hll]; omega⟩
    · by_cases h0 : len = 0
      · subst h0; exact .inl rfl
      · obtain ⟨b, off, spot⟩ := a
        have hc0 := (hx 0 (by omega)).1
        have hspot : spot = none := by simpa [Addr.add] using World.cell?_spot hc0
        subst hspot
        have hbl := World.block_lt_of_cell? _ _ hc0
        rw [addr_add] at hbl
        refine .inr ⟨b, off, rfl, hbl, by show ¬ w.heap.size ≤ b; simp only at hbl; omega, fun j u hu => ?_⟩
        obtain ⟨i, hi, hh⟩ := prsV_inv hu
        have hil : i < len := by omega
        obtain ⟨c0, c1, _, _⟩ := hx i (by omega)
        obtain ⟨g0, g1, _, _⟩ := hf i (by omega)
        rw [addr_add] at c0 c1
        have hget : ((List.range len).map f)[i] = f i := by simp
        rcases hh with ⟨rfl, rfl⟩ | ⟨rfl, rfl⟩
        · rw [c0, g0, hget]
        · rw [c1, g1, hget]
    · intro p hp
      obtain ⟨i, hi, rfl⟩ := List.mem_map.1 hp
      have hil : i < len := by simpa using hi
      obtain ⟨_, _, z0, z1⟩ := hf i (by omega)
      unfold maxLen at z0 z1
      exact ⟨z0, z1⟩
theorem open_zs {fuel : Nat} {cs : List Value} {x : DataW H × List MemPlace} (h : DataW.trod enc Tryz.prog w base (fun _ => true) held fuel 61 cs = some x) : ∃ A len cap zs, cs = [.slice A len cap] ∧ len = zs.length ∧ IInts w A zs := by
  rcases open_ints Tryz.underlying61 Tryz.underlying3 (by kernel_rfl) h with ⟨hcs, _⟩ | ⟨a, len, cap, zs, hcs, hb, hl, hm, hz, _, hc, hwf⟩
  · exact ⟨none, 0, 0, [], hcs, rfl, .inl rfl, by simp, fun z hz => by simp at hz⟩
  · have hzc : zs.length = cap := by simpa using hz
    unfold maxLen at hm
    have hll : (zs.take len).length = len := by simp; omega
    refine ⟨some a, len, cap, zs.take len, hcs, hll.symm, ?_, by rw [hll]; omega, fun z hz => int_bound (hwf z (List.mem_of_mem_take hz))⟩
    by_cases h0 : len = 0
    · subst h0; exact .inl rfl
    · obtain ⟨b, off, spot⟩ := a
      have hc0 := hc 0 (by omega)
      have hspot : spot = none := by simpa [Addr.add] using World.cell?_spot hc0
      subst hspot
      have hbl := World.block_lt_of_cell? _ _ hc0
      rw [addr_add] at hbl
      refine .inr ⟨b, off, rfl, hbl, by show ¬ w.heap.size ≤ b; simp only at hbl; omega, fun j u hu => ?_⟩
      rw [intsV, List.getElem?_map] at hu
      by_cases hj : j < (zs.take len).length
      · have hj2 : j < zs.length := by omega
        have h1 := hc j hj2
        rw [addr_add] at h1
        rw [h1]
        rw [List.getElem?_eq_getElem hj, Option.map_some, Option.some.injEq] at hu
        rw [← hu, List.getElem_take]
        simp [List.getD_eq_getElem?_getD, List.getElem?_eq_getElem hj2]
      · rw [List.getElem?_eq_none (by omega)] at hu
        cases hu
end
end Go.Proofs.YtoifdmbffaaffaaGreatDoor
/- A node by value, as a law's row opens it; a handle. -/
set_option linter.unusedVariables false
set_option linter.unusedSimpArgs false
namespace Go.Proofs.YtoifdmbffaaffaaGreatDoor
open Go.ChangeShapes Go.WideShapes Go.ChangeAt Go.WideMaps Go.WideElems Go.RowKit Go.Deep
theorem u64_bound {n : Int} (h : (Lit.int .u64 n).wf = true) : 0 ≤ n ∧ n ≤ 18446744073709551615 := by
  simpa [Lit.wf, IntKind.min, IntKind.max, IntKind.signed, IntKind.bits] using h
theorem nd_under : ∃ fs : Array Field, Tryz.prog.underlying 54 = some (.struct fs) ∧ oneCellFields Tryz.prog fs = true ∧ fs.size = 6 ∧ ∀ i, i < 6 → ∃ f, fs[i]? = some f ∧ Tryz.prog.underlying f.type = some (.int .u64) := by
  refine ⟨_, Tryz.underlying54, by kernel_rfl, rfl, fun i hi => ?_⟩
  match i, hi with
  | 0, _ => exact ⟨_, rfl, Tryz.underlying23⟩
  | 1, _ => exact ⟨_, rfl, Tryz.underlying23⟩
  | 2, _ => exact ⟨_, rfl, Tryz.underlying23⟩
  | 3, _ => exact ⟨_, rfl, Tryz.underlying23⟩
  | 4, _ => exact ⟨_, rfl, Tryz.underlying22⟩
  | 5, _ => exact ⟨_, rfl, Tryz.underlying22⟩
  | i + 6, h => omega
section
variable {H : Type} {enc : TypeId × Value → H} {w : World} {held : Bool} {v : Value} {d : DataW H} {p : List MemPlace}
set_option maxRecDepth 100000 in
theorem open_nd {base : Nat} (hv : Value.okWide Tryz.prog w .any base 54 v) (h : DataW.Trod enc Tryz.prog w 0 (fun _ => true) held 54 v d p) : ∃ x : Nd, v = x.v ∧ x.Ok := by
  obtain ⟨fs, hu, hone, h6, hfs⟩ := nd_under
  obtain ⟨cs, rfl, hsz⟩ := okWide_struct hu hv
  have hc6 : Tryz.prog.cellsOf 54 = 6 := by kernel_rfl
  obtain ⟨l⟩ := cs
  match l, hsz.trans hc6 with
  | [c0, c1, c2, c3, c4, c5], _ =>
    obtain ⟨fuel, hf⟩ := h
    obtain ⟨xs, n, _, hx, _, hlen, hg⟩ := DataW.trod_struct hu hf
    have each : ∀ i, (hi : i < 6) → ∃ z : Nat, ((([c0, c1, c2, c3, c4, c5] : List Value).drop i).take 1) = [Value.int .u64 (z : Nat)] ∧ z < 18446744073709551616 := fun i hi => by
      obtain ⟨f, hfi, hfu⟩ := hfs i hi
      obtain ⟨o1, k1⟩ := hone_of hone i f hfi
      have h1 := hg i f hfi
      have hxl : i < xs.length := by omega
      rw [o1, k1, List.getElem?_eq_getElem hxl] at h1
      simp only [Value.cells] at h1
      obtain ⟨m, e1, _, hwf⟩ := DataW.trod_int hfu h1
      obtain ⟨b1, b2⟩ := u64_bound hwf
      obtain ⟨z, rfl⟩ := Int.eq_ofNat_of_zero_le b1
      exact ⟨z, e1, by omega⟩
    obtain ⟨z0, e0, b0⟩ := each 0 (by omega)
    obtain ⟨z1, e1, b1⟩ := each 1 (by omega)
    obtain ⟨z2, e2, b2⟩ := each 2 (by omega)
    obtain ⟨z3, e3, b3⟩ := each 3 (by omega)
    obtain ⟨z4, e4, b4⟩ := each 4 (by omega)
    obtain ⟨z5, e5, b5⟩ := each 5 (by omega)
    simp only [List.drop_succ_cons, List.drop_zero, List.take_succ_cons, List.take_zero, List.cons.injEq, and_true] at e0 e1 e2 e3 e4 e5
    subst e0 e1 e2 e3 e4 e5
    exact ⟨⟨z0, z1, z2, z3, z4, z5⟩, rfl, ⟨b0, b1, b2, b3, b4, b5⟩⟩
end
end Go.Proofs.YtoifdmbffaaffaaGreatDoor

/-
  The seat's own texts, part h: Tree2, Free, Prs, Prs2, Prs3, Grow, Grow2, Made.
-/
import Derived.Test.YtdcglpagdnhkgaaGreatDoorMg
import Derived.Laws.AppendOwnNone
import Derived.Maps.AppendAt
import Derived.Deep.QuietTactic
import Derived.BigQuiet
import Derived.Deep.DeepMust
/- Trees in records: a right one is told right; ranks and places by keys. Plain law. -/
set_option linter.unusedVariables false
set_option linter.unusedSimpArgs false
namespace Go.Proofs.YtdcglpagdnhkgaaGreatDoor
open Go.RowKit Go.Shelf
theorem cmp_zero {a b : ByteArray} : Tx.cmp a b = 0 ↔ a = b := by
  unfold Tx.cmp
  rw [Tx.cb_zero]
  constructor
  · intro h
    cases a; cases b
    simp only [ByteArray.mk.injEq]
    exact Array.toList_inj.1 h
  · rintro rfl; rfl
theorem cmp_swap (a b : ByteArray) : Tx.cmp b a = -Tx.cmp a b := Tx.cb_swap _ _
theorem cmp_lt_trans {a b c : ByteArray} (h : Tx.cmp a b < 0) (k : Tx.cmp b c < 0) : Tx.cmp a c < 0 :=
  (Tx.cb_trans _ _ _ (Int.le_of_lt h) (Int.le_of_lt k)).2 (.inl h)
theorem cmp_range (a b : ByteArray) : Tx.cmp a b = -1 ∨ Tx.cmp a b = 0 ∨ Tx.cmp a b = 1 := Tx.cb_range _ _
/-- how many keys of pairs are below one -/
def rankL (l : List (ByteArray × ByteArray)) (k : ByteArray) : Nat := l.countP fun p => decide (Tx.cmp p.1 k < 0)
/-- pairs by rising keys -/
def Rising (l : List (ByteArray × ByteArray)) : Prop := l.Pairwise fun a b => Tx.cmp a.1 b.1 < 0
theorem rankL_le (l : List (ByteArray × ByteArray)) (k : ByteArray) : rankL l k ≤ l.length := List.countP_le_length
theorem rankL_all {l : List (ByteArray × ByteArray)} {k : ByteArray} (h : ∀ p ∈ l, Tx.cmp p.1 k < 0) : rankL l k = l.length := by
  unfold rankL
  rw [List.countP_eq_length]
  exact fun p hp => decide_eq_true (h p hp)
theorem rankL_none {l : List (ByteArray × ByteArray)} {k : ByteArray} (h : ∀ p ∈ l, ¬ Tx.cmp p.1 k < 0) : rankL l k = 0 := by
  unfold rankL
  rw [List.countP_eq_zero]
  exact fun p hp e => h p hp (of_decide_eq_true e)
theorem rankL_append (l m : List (ByteArray × ByteArray)) (k : ByteArray) : rankL (l ++ m) k = rankL l k + rankL m k := List.countP_append
theorem rankL_cons (p : ByteArray × ByteArray) (m : List (ByteArray × ByteArray)) (k : ByteArray) : rankL (p :: m) k = rankL m k + if Tx.cmp p.1 k < 0 then 1 else 0 := by
  unfold rankL
  rw [List.countP_cons]
  simp
namespace BT
variable {R : Nat → Option (List Nat)}
theorem rank_list (k : ByteArray) : ∀ t : BT, Rising t.prs → t.rank k = rankL t.prs k
  | nil, _ => rfl
  | node h kh vh m k' v l r, hs => by
    unfold Rising at hs
    rw [prs, List.pairwise_append, List.pairwise_cons] at hs
    obtain ⟨hl, ⟨hkr, hr⟩, hlk⟩ := hs
    have e1 := rank_list k l hl
    have e2 := rank_list k r hr
    rw [rank, prs, rankL_append, rankL_cons]
    have hsw := cmp_swap k k'
    by_cases c1 : Tx.cmp k k' < 0
    · have hnn : rankL r.prs k = 0 := by
        refine rankL_none fun p hp e => ?_
        have h1 : Tx.cmp k' p.1 < 0 := hkr p hp
        have h2 := cmp_lt_trans c1 h1
        have := cmp_swap k p.1
        omega
      rw [if_pos c1, e1, if_neg (show ¬ Tx.cmp k' k < 0 by omega), hnn]
      rfl
    · rw [if_neg c1]
      have hll : rankL l.prs k = l.size := by
        rw [← prs_len]
        refine rankL_all fun p hp => ?_
        have h1 : Tx.cmp p.1 k' < 0 := hlk p hp (k', v) (by simp)
        by_cases c0 : Tx.cmp k k' = 0
        · rw [cmp_zero.1 c0]; exact h1
        · exact cmp_lt_trans h1 (by omega)
      by_cases c2 : 0 < Tx.cmp k k'
      · rw [if_pos c2, hll, e2, if_pos (show Tx.cmp k' k < 0 by omega)]
        omega
      · have hnn : rankL r.prs k = 0 := by
          refine rankL_none fun p hp e => ?_
          have h1 : Tx.cmp k' p.1 < 0 := hkr p hp
          have hk : k = k' := cmp_zero.1 (by omega)
          have := cmp_swap k p.1
          rw [hk] at this e
          omega
        rw [if_neg c2, hll, if_neg (show ¬ Tx.cmp k' k < 0 by omega), hnn]
        rfl
theorem find_list (k : ByteArray) : ∀ t : BT, t.find k = if (t.prs[t.rank k]?).map (·.1) = some k then (t.nodes[t.rank k]?).getD 0 else 0
  | nil => by simp [find, prs, rank]
  | node h kh vh m k' v l r => by
    have e1 := find_list k l
    have e2 := find_list k r
    have hl1 := prs_len l
    have hl2 := nodes_len l
    have hle := rank_le k l
    rw [find, rank, prs, nodes]
    by_cases c1 : Tx.cmp k k' < 0
    · rw [if_pos c1, if_pos c1, e1]
      by_cases hlt : l.rank k < l.size
      · rw [List.getElem?_append_left (by omega), List.getElem?_append_left (by omega)]
      · obtain he : l.rank k = l.size := by omega
        rw [he, List.getElem?_append_right (by omega), List.getElem?_eq_none (by omega), hl1, Nat.sub_self]
        rw [if_neg (by simp), if_neg]
        simp only [List.getElem?_cons_zero, Option.map_some, Option.some.injEq]
        rintro rfl
        have := (cmp_zero (a := k') (b := k')).2 rfl
        omega
    · rw [if_neg c1, if_neg c1]
      by_cases c2 : 0 < Tx.cmp k k'
      · rw [if_pos c2, if_pos c2, e2, List.getElem?_append_right (by omega), List.getElem?_append_right (by omega)]
        rw [hl1, hl2, show l.size + 1 + r.rank k - l.size = r.rank k + 1 by omega, List.getElem?_cons_succ, List.getElem?_cons_succ]
      · rw [if_neg c2, if_neg c2, List.getElem?_append_right (by omega), List.getElem?_append_right (by omega), hl1, hl2, Nat.sub_self]
        rw [if_pos]
        · rfl
        · simp only [List.getElem?_cons_zero, Option.map_some, Option.some.injEq]
          exact (cmp_zero.1 (by omega)).symm
end BT
/-- what stands of a node in a tree -/
structure En where
  h : Nat
  nd : Nd
  k : ByteArray
  v : ByteArray
def En.At (R : Nat → Option (List Nat)) (e : En) : Prop := R e.h = some e.nd.ws ∧ R e.nd.key = some (Tx.wordsL e.k.data.toList) ∧ R e.nd.val = some (Tx.wordsL e.v.data.toList) ∧ e.k.size ≤ 1000 ∧ e.v.size ≤ 1000 ∧ fitsR R e.nd = true
def En.hs (e : En) : List Nat := [e.h, e.nd.key, e.nd.val]
theorem En.At.pair {R : Nat → Option (List Nat)} {h : Nat} {nd : Nd} {k v : ByteArray} (h1 : R h = some nd.ws) (h2 : R nd.key = some (Tx.wordsL k.data.toList)) (h3 : R nd.val = some (Tx.wordsL v.data.toList)) (h4 : k.size ≤ 1000) (h5 : v.size ≤ 1000) : pairE R h = 0 ∧ pairP R h = (k, v) := by
  obtain ⟨e1, e2⟩ := nodeR_at h1
  obtain ⟨b1, b2⟩ := blobR_text h2 h4
  obtain ⟨b3, b4⟩ := blobR_text h3 h5
  have hp : pairE R h = 0 := by unfold pairE; rw [e2, if_neg (by simp [e1]), if_neg (by simp [b2]), b4]
  refine ⟨hp, ?_⟩
  unfold pairP
  rw [if_pos hp, e2, b1, b3]
  rfl
namespace BT
variable {R : Nat → Option (List Nat)}
def ents : BT → List En
  | nil => []
  | node h kh vh m k v l r => l.ents ++ ⟨h, ⟨kh, vh, l.root, r.root, m, l.size + 1 + r.size⟩, k, v⟩ :: r.ents
theorem ents_nodes : ∀ t : BT, t.ents.map (·.h) = t.nodes
  | nil => rfl
  | node _ _ _ _ _ _ l r => by rw [ents, nodes, List.map_append, List.map_cons, ents_nodes l, ents_nodes r]
theorem ents_prs : ∀ t : BT, t.ents.map (fun e => (e.k, e.v)) = t.prs
  | nil => rfl
  | node _ _ _ _ _ _ l r => by rw [ents, prs, List.map_append, List.map_cons, ents_prs l, ents_prs r]
theorem ents_hs : ∀ t : BT, t.ents.flatMap En.hs = t.hs
  | nil => rfl
  | node _ _ _ _ _ _ l r => by rw [ents, hs, List.flatMap_append, List.flatMap_cons, ents_hs l, ents_hs r]; rfl
theorem ents_sides : ∀ (t : BT) (e : En), e ∈ t.ents → (e.nd.left = 0 ∨ e.nd.left ∈ t.nodes) ∧ (e.nd.right = 0 ∨ e.nd.right ∈ t.nodes)
  | nil, e, h => by simp [ents] at h
  | node h kh vh m k v l r, e, he => by
    simp only [ents, List.mem_append, List.mem_cons] at he
    simp only [nodes, List.mem_append, List.mem_cons]
    rcases he with he | rfl | he
    · obtain ⟨h1, h2⟩ := ents_sides l e he
      exact ⟨h1.imp_right .inl, h2.imp_right .inl⟩
    · exact ⟨(root_nodes l).imp_right .inl, (root_nodes r).imp_right fun h => .inr (.inr h)⟩
    · obtain ⟨h1, h2⟩ := ents_sides r e he
      exact ⟨h1.imp_right fun h => .inr (.inr h), h2.imp_right fun h => .inr (.inr h)⟩
theorem side_at {t : BT} (ht : t.At R) : sideR R t.root = some t.size := by
  unfold sideR
  cases t with
  | nil => rfl
  | node h kh vh m k v l r =>
    obtain ⟨h1, h2, _⟩ := ht
    obtain ⟨e1, e2⟩ := nodeR_at h2
    rw [root, if_neg h1, if_neg (by simp [e1]), e2]
    rfl
theorem ents_at : ∀ (t : BT), t.At R → t.size < 18446744073709551616 → ∀ e ∈ t.ents, e.At R
  | nil, _, _, e, he => by simp [ents] at he
  | node h kh vh m k v l r, ht, hs, e, he => by
    obtain ⟨h1, h2, h3, h4, h5, h6, hl, hr⟩ := ht
    simp only [size] at hs
    simp only [ents, List.mem_append, List.mem_cons] at he
    rcases he with he | rfl | he
    · exact ents_at l hl (by omega) e he
    · refine ⟨h2, h3, h4, h5, h6, ?_⟩
      have e1 : fitAcc R ⟨kh, vh, l.root, r.root, m, l.size + 1 + r.size⟩ 2 = some (l.size + 1 + r.size) := by
        simp only [fitAcc, Nd.side, if_true, Option.bind_some]
        rw [side_at hl]
        simp only [Option.map_some, Option.bind_some, Nat.one_ne_zero, if_false]
        rw [side_at hr]
        simp only [Option.map_some, Option.some.injEq]
        omega
      unfold fitsR
      rw [e1]
      simp
    · exact ents_at r hr (by omega) e he
end BT
section
variable {R : Nat → Option (List Nat)}
theorem chk3_some : ∀ (l S : List Nat), (S ++ l).Nodup → chk3 S l = some (S ++ l)
  | [], S, _ => by simp [chk3]
  | x :: t, S, h => by
    have hx : x ∉ S := fun hx => by
      rw [List.nodup_append] at h
      exact h.2.2 x hx x (by simp) rfl
    rw [chk3, if_neg hx, chk3_some t (S ++ [x]) (by simpa using h)]
    simp
theorem chk_fold : ∀ (es : List En) (c : Cst), (∀ e ∈ es, e.At R) → (es.map (fun e => (e.k, e.v))).Pairwise (fun a b => Tx.cmp a.1 b.1 < 0) → (c.first = true ∨ ∀ e ∈ es, Tx.cmp c.last e.k < 0) → (c.S ++ es.flatMap En.hs).Nodup →
    ∃ c', (es.map (·.h)).foldl (fun (c : Option Cst) h => c.bind fun c => c.step R h) (some c) = some c' ∧ c'.S = c.S ++ es.flatMap En.hs ∧ c'.sides = c.sides ++ es.flatMap (fun e => [e.nd.left, e.nd.right])
  | [], c, _, _, _, _ => ⟨c, rfl, by simp, by simp⟩
  | e :: es, c, hat, hp, hl, hn => by
    obtain ⟨h1, h2, h3, h4, h5, h6⟩ := hat e (by simp)
    obtain ⟨p1, p2⟩ := En.At.pair h1 h2 h3 h4 h5
    obtain ⟨e1, e2⟩ := nodeR_at h1
    rw [List.map_cons, List.pairwise_cons] at hp
    rw [List.flatMap_cons] at hn
    have hn3 : (c.S ++ e.hs).Nodup := by
      rw [← List.append_assoc] at hn
      exact (List.nodup_append.1 hn).1
    have hbad : c.bad R e.h = false := by
      unfold Cst.bad
      rw [p1, p2, e2, h6]
      rcases hl with hf | hf
      · rw [hf]; rfl
      · have := hf e (by simp)
        simp; omega
    have hstep : c.step R e.h = some ⟨c.S ++ e.hs, e.k, false, c.sides ++ [e.nd.left, e.nd.right]⟩ := by
      unfold Cst.step
      rw [if_neg (by simp [hbad]), e2, p2, show [e.h, e.nd.key, e.nd.val] = e.hs from rfl, chk3_some _ _ hn3]
      rfl
    obtain ⟨c', q1, q2, q3⟩ := chk_fold es ⟨c.S ++ e.hs, e.k, false, c.sides ++ [e.nd.left, e.nd.right]⟩ (fun x hx => hat x (by simp [hx])) hp.2 (.inr fun x hx => hp.1 _ (List.mem_map.2 ⟨x, hx, rfl⟩)) (by rw [List.append_assoc]; exact hn)
    refine ⟨c', ?_, ?_, ?_⟩
    · rw [List.map_cons, List.foldl_cons, Option.bind_some, hstep]
      exact q1
    · rw [q2, List.flatMap_cons, List.append_assoc]
    · rw [q3, List.flatMap_cons, List.append_assoc]
theorem BT.chk_at {t : BT} (ht : t.At R) (hr : Rising t.prs) (hn : t.hs.Nodup) (hs : t.size < 18446744073709551616) (root : Nat) :
    ∃ c, chkL R root t.nodes = some c ∧ c.S = t.hs ∧ c.sides = root :: t.ents.flatMap (fun e => [e.nd.left, e.nd.right]) := by
  obtain ⟨c, h1, h2, h3⟩ := chk_fold (R := R) t.ents ⟨[], ⟨#[]⟩, true, [root]⟩ (ents_at t ht hs) (by rw [ents_prs]; exact hr) (.inl rfl) (by rw [ents_hs]; exact hn)
  rw [ents_nodes] at h1
  exact ⟨c, h1, by rw [h2, ents_hs]; rfl, by rw [h3]; rfl⟩
theorem BT.check_at {t : BT} (ht : t.At R) (hr : Rising t.prs) (hn : t.hs.Nodup) {n : Nat} (hsz : t.size ≤ n / 8) (hs : t.size < 1000000) : checkR R n t.root = 0 := by
  unfold checkR
  by_cases h0 : t.root = 0
  · rw [if_pos h0]
  · rw [if_neg h0]
    have hrt : nodeE R t.root = 0 ∧ (nodeG R t.root).size = t.size := by
      cases t with
      | nil => exact absurd rfl h0
      | node h kh vh m k v l r =>
        obtain ⟨e1, e2⟩ := nodeR_at ht.2.1
        exact ⟨e1, by rw [BT.root, e2]; rfl⟩
    rw [if_neg (by simp [hrt.1]), inR_at ht hsz]
    obtain ⟨c, h1, h2, h3⟩ := BT.chk_at ht hr hn (by omega) t.root
    rw [h1]
    simp only
    rw [if_neg, if_neg]
    · rw [h2, hs_len, hrt.2]
      omega
    · rw [h3, h2, List.any_eq_true]
      rintro ⟨y, hy, h9⟩
      have hin : y = 0 ∨ y ∈ t.nodes := by
        rcases List.mem_cons.1 hy with rfl | hy
        · exact root_nodes t
        · obtain ⟨e, he, hye⟩ := List.mem_flatMap.1 hy
          obtain ⟨g1, g2⟩ := ents_sides t e he
          rcases List.mem_cons.1 hye with rfl | hye
          · exact g1
          · rcases List.mem_cons.1 hye with rfl | hye
            · exact g2
            · simp at hye
      rcases hin with rfl | hin
      · simp at h9
      · have := nodes_hs t y hin
        simp [this] at h9
end
end Go.Proofs.YtdcglpagdnhkgaaGreatDoor
/- walk.Free, of a right tree. -/
set_option linter.unusedVariables false
set_option linter.unusedSimpArgs false
namespace Go.Proofs.YtdcglpagdnhkgaaGreatDoor
open Go.RowKit Go.Shelf
/-- records of some handles less -/
def dropR (R : Nat → Option (List Nat)) (l : List Nat) : Nat → Option (List Nat) := fun y => if y ∈ l then none else R y
theorem dropR_nil (R : Nat → Option (List Nat)) : dropR R [] = R := by funext y; simp [dropR]
theorem dropR_in {R : Nat → Option (List Nat)} {l : List Nat} {y : Nat} (h : y ∈ l) : dropR R l y = none := if_pos h
theorem dropR_out {R : Nat → Option (List Nat)} {l : List Nat} {y : Nat} (h : y ∉ l) : dropR R l y = R y := if_neg h
theorem dropR_three (R : Nat → Option (List Nat)) (l : List Nat) (a b c : Nat) : updR (updR (updR (dropR R l) b none) c none) a none = dropR R (l ++ [a, b, c]) := by
  funext y
  unfold updR dropR
  simp only [List.mem_append, List.mem_cons, List.not_mem_nil, or_false]
  by_cases e1 : y = a
  · simp [e1]
  · by_cases e2 : y = b
    · simp [e2]
    · by_cases e3 : y = c
      · simp [e3]
      · simp [e1, e2, e3]
theorem Short.drop {R : Nat → Option (List Nat)} (h : Short R) (l : List Nat) : Short (dropR R l) := fun x ws hx => by
  unfold dropR at hx
  split at hx
  · cases hx
  · exact h x ws hx
theorem Short.upd {R : Nat → Option (List Nat)} (h : Short R) (x : Nat) (o : Option (List Nat)) (ho : ∀ ws, o = some ws → ws.length ≤ 200) : Short (updR R x o) := fun y ws hy => by
  unfold updR at hy
  split at hy
  · exact ho ws hy
  · exact h y ws hy
theorem sum_sub {f : Nat → Nat} : ∀ (l H : List Nat), l.Nodup → (∀ x ∈ l, x ∈ H) → (l.map f).sum ≤ (H.map f).sum
  | [], H, _, _ => by simp
  | x :: l, H, hn, hs => by
    rw [List.nodup_cons] at hn
    have hx : x ∈ H := hs x (by simp)
    have h1 := sum_sub (f := f) l (H.erase x) hn.2 (fun y hy => (List.mem_erase_of_ne (fun e => by subst e; exact hn.1 hy)).2 (hs y (by simp [hy])))
    have h2 := ((List.perm_cons_erase hx).map f).sum_nat
    simp only [List.map_cons, List.sum_cons] at h2 ⊢
    omega
section
variable {w w' : World} {s N : Nat} {F : Nat → Prop} {R : Nat → Option (List Nat)} {H : List Nat} {P q most last G n : Nat}
theorem StoreIs.dom (h : StoreIs w s F R H P q most last G) (x : Nat) : x ∈ H ↔ R x ≠ none := by
  obtain ⟨a, ha, t, v, L, mem, sl, Fh, h⟩ := h
  constructor
  · intro hx
    obtain ⟨k, nm⟩ := (h.inH x).1 hx
    obtain ⟨ws, h1, _⟩ := h.link x k nm
    rw [h1]; simp
  · intro hx
    by_cases hm : x ∈ H
    · exact hm
    · exact absurd (h.none' x hm) hx
theorem StoreIs.nodup (h : StoreIs w s F R H P q most last G) : H.Nodup := by
  obtain ⟨a, ha, t, v, L, mem, sl, Fh, h⟩ := h
  exact h.nodup
theorem BT.hs_in : ∀ (t : BT), t.At R → ∀ x ∈ t.hs, R x ≠ none
  | .nil, _, x, hx => by simp [BT.hs] at hx
  | .node h kh vh m k v l r, ht, x, hx => by
    obtain ⟨h1, h2, h3, h4, h5, h6, hl, hr⟩ := ht
    simp only [BT.hs, List.mem_append, List.mem_cons] at hx
    rcases hx with hx | rfl | rfl | rfl | hx
    · exact BT.hs_in l hl x hx
    · rw [h2]; simp
    · rw [h3]; simp
    · rw [h4]; simp
    · exact BT.hs_in r hr x hx
theorem BT.nodes_six : ∀ (t : BT), t.At R → ∀ x ∈ t.nodes, ∃ nd : Nd, R x = some nd.ws
  | .nil, _, x, hx => by simp [BT.nodes] at hx
  | .node h kh vh m k v l r, ht, x, hx => by
    obtain ⟨h1, h2, h3, h4, h5, h6, hl, hr⟩ := ht
    simp only [BT.nodes, List.mem_append, List.mem_cons] at hx
    rcases hx with hx | rfl | hx
    · exact BT.nodes_six l hl x hx
    · exact ⟨_, h2⟩
    · exact BT.nodes_six r hr x hx
theorem BT.nodes_sub : ∀ (t : BT), t.nodes.Sublist t.hs
  | .nil => List.Sublist.refl _
  | .node h kh vh m k v l r => by
    simp only [BT.nodes, BT.hs]
    exact List.Sublist.append (BT.nodes_sub l) ((((BT.nodes_sub r).cons vh).cons kh).cons_cons h)
/-- a tree in a store has no more nodes than the walks go through -/
theorem BT.size_words {t : BT} (ht : t.At R) (hn : t.hs.Nodup) (hd : ∀ x, x ∈ H ↔ R x ≠ none) (hw : WordsR R H P n) : 8 * t.size ≤ n := by
  obtain ⟨p, rfl, _, _, hsum⟩ := hw
  have h1 := sum_sub (f := fun x => ((R x).getD []).length + 2) t.nodes H ((BT.nodes_sub t).nodup hn) (fun x hx => (hd x).2 (BT.hs_in t ht x (BT.nodes_hs t x hx)))
  have h2 : (t.nodes.map fun x => ((R x).getD []).length + 2) = List.replicate t.size 8 := by
    rw [List.eq_replicate_iff]
    refine ⟨by simp [BT.nodes_len], fun b hb => ?_⟩
    obtain ⟨x, hx, rfl⟩ := List.mem_map.1 hb
    obtain ⟨nd, hnd⟩ := BT.nodes_six t ht x hx
    rw [hnd]; rfl
  rw [h2, List.sum_replicate_nat] at h1
  omega
theorem BT.root_lt {t : BT} (ht : t.At R) (h : Rd N w s R n) : t.root < 18446744073709551616 := by
  cases t with
  | nil => exact (by decide : (0 : Nat) < 18446744073709551616)
  | node x kh vh m k v l r => exact (h.u64 ht.2.1).1
theorem wfree_err (h : Rd N w s R n) (hsh : Short R) (x : Nat) (hx : x < 18446744073709551616) (hc : checkR R n x ≠ 0) :
    Calls Tryz.prog 24 #[.pointer (some ⟨s, 0, none⟩), .int .u64 (x : Nat)] w fun e w' => e = .returned (.int .i64 (checkR R n x : Nat)) ∧ Below w.heap.size w w' := by
  have hC := Lib.hid (check_at h hsh x hx)
  have d : (((checkR R n x : Nat) : Int) != 0) = true := by simp; omega
  generalize checkR R n x = z at *
  clear h hc
  go_enter Tryz.func24, Tryz.ntmps24
  go_wp2_with fail
  refine hC.out.mono ?_
  rintro e w1 ⟨rfl, hb1⟩
  have hbH := Lib.hid hb1
  clear hb1
  go_wp2
  go_ret
  exact ⟨rfl, hbH.out⟩
/-- what stands between two rounds -/
def FreeAt (w2 : World) (s : Nat) (F : Nat → Prop) (R : Nat → Option (List Nat)) (P q most last G : Nat) (l : List Nat) (wr : World) : Prop :=
  ∃ F' H', StoreIs wr s F' (dropR R l) H' P q most last G ∧ Turn w2 F wr F'
set_option maxHeartbeats 2000000 in
set_option maxRecDepth 100000 in
theorem wfree_nilTree (h : Rd N w s R n) (hsh : Short R) :
    Calls Tryz.prog 24 #[.pointer (some ⟨s, 0, none⟩), .int .u64 ((0 : Nat) : Int)] w fun e w' => e = .returned (.int .i64 0) ∧ Below w.heap.size w w' := by
  have hC := check_at h hsh 0 (by decide)
  rw [show checkR R n 0 = 0 from if_pos rfl] at hC
  have hCH := Lib.hid hC
  have hL := Lib.hid (fun w' (hb : Below w.heap.size w w') => list_at (h.below hb) 0 (by decide))
  have hin : Hid (inR R n 0 = []) := Lib.hid (by
    have := BT.inR_at (R := R) (t := .nil) trivial (n := n) (Nat.zero_le _)
    exact this)
  clear h hC
  go_enter Tryz.func24, Tryz.ntmps24
  go_wp2_with fail
  refine hCH.out.mono ?_
  rintro e w1 ⟨rfl, hb1⟩
  have hb1H := Lib.hid hb1
  clear hb1
  go_wp2_with fail
  refine (hL.out w1 hb1H.out).mono ?_
  rintro e w2 ⟨v, rfl, hrow, hb2⟩
  rw [hin.out] at hrow
  obtain ⟨A, cc, rfl⟩ := ownsRow_form hrow
  have hb2H := Lib.hid (hb1H.out.trans (hb2.mono hb1H.out.size))
  clear hb2 hrow
  go_wp2_with fail
  go_loopw [20] (fun iv wr => iv = .int .i64 0 ∧ wr = w2) (fun iv _ => (intOf iv).toNat)
  case atStart => exact ⟨rfl, rfl⟩
  case round =>
    obtain ⟨rfl, rfl⟩ := hrel
    go_wp2
    go_ret
    exact ⟨rfl, hb2H.out⟩
set_option maxHeartbeats 4000000 in
set_option maxRecDepth 100000 in
theorem wfree_at (h : StoreIs w s F R H P q most last G) (hsh : Short R) {t : BT} (ht : t.At R) (hr : Rising t.prs) (hn : t.hs.Nodup) :
    Calls Tryz.prog 24 #[.pointer (some ⟨s, 0, none⟩), .int .u64 (t.root : Nat)] w fun e w' => ∃ F' H', e = .returned (.int .i64 0) ∧ StoreIs w' s F' (dropR R t.hs) H' P q most last G ∧ Turn w F w' F' := by
  obtain ⟨n, hrd, hwd⟩ := h.rd
  have hsz := BT.size_words ht hn h.dom hwd
  have hnle := hrd.le
  have hx := BT.root_lt ht hrd
  by_cases ht0 : t.size = 0
  · have hnil : t = .nil := by
      cases t with
      | nil => rfl
      | node x kh vh m k v l r => simp [BT.size] at ht0
    subst hnil
    refine (wfree_nilTree hrd hsh).mono ?_
    rintro e w' ⟨rfl, hb⟩
    refine ⟨F, H, rfl, ?_, Turn.below hb⟩
    rw [show dropR R (BT.hs .nil) = R from dropR_nil R]
    exact h.below hb
  · have hC := check_at hrd hsh t.root hx
    rw [BT.check_at ht hr hn (n := n) (by omega) (by omega)] at hC
    have hCH := Lib.hid hC
    have hL := Lib.hid (fun w' (hb : Below w.heap.size w w') => list_at (hrd.below hb) t.root hx)
    have hin : Hid (inR R n t.root = t.nodes) := Lib.hid (BT.inR_at ht (by omega))
    obtain ⟨es, hes⟩ : ∃ es, t.ents = es := ⟨_, rfl⟩
    have hnodes : t.nodes = es.map (·.h) := by rw [← hes, BT.ents_nodes]
    have hhs : t.hs = es.flatMap En.hs := by rw [← hes, BT.ents_hs]
    have hat : Hid (∀ e ∈ es, e.At R) := Lib.hid (by rw [← hes]; exact BT.ents_at t ht (by omega))
    have hlen : es.length = t.size := by have := BT.nodes_len t; rw [hnodes, List.length_map] at this; exact this
    rw [hhs] at hn ⊢
    have hnH := Lib.hid hn
    have hnodesH := Lib.hid hnodes
    have hlen1 : 0 < es.length := by omega
    have hlen2 : es.length ≤ 40000 := by omega
    have hSH := Lib.hid h
    have hshH := Lib.hid hsh
    have hFlt : Hid (∀ b, F b → b < w.heap.size) := Lib.hid (fun b hb => h.lt hb)
    generalize t.root = rt at *
    clear hC hrd hwd hsz hnle ht0 hlen hn hhs hnodes hes ht hr h hsh
    go_enter Tryz.func24, Tryz.ntmps24
    go_wp2_with fail
    refine hCH.out.mono ?_
    rintro e w1 ⟨rfl, hb1⟩
    have hb1H := Lib.hid hb1
    clear hb1
    go_wp2_with fail
    refine (hL.out w1 hb1H.out).mono ?_
    rintro e w2 ⟨v, rfl, hrow, hb2⟩
    rw [hin.out, hnodesH.out, List.length_map] at hrow
    obtain ⟨g, cc, rfl⟩ := row_pos hrow hlen1
    have hg1 : w.heap.size ≤ g := by
      have h1 := (own_lt hrow (k := g) (by simp [Value.ownBlock])).1
      have h2 := hb1H.out.size
      omega
    have hcells : Hid (∀ j (hj : j < es.length), w2.cell? ((⟨g, 0, none⟩ : Addr).add j) = some (.int .u64 (es[j].h : Nat))) := Lib.hid (fun j hj =>
      hrow.cells (g := g) rfl j (.int .u64 (es[j].h : Nat)) (by simp [hsV, List.getElem?_eq_getElem hj]))
    have hgF : Hid (¬ F g) := Lib.hid (fun hf => by have := hFlt.out g hf; omega)
    have hb2H := Lib.hid (hb1H.out.trans (hb2.mono hb1H.out.size))
    have hS2 := Lib.hid (hSH.out.below hb2H.out)
    have h20 : Hid (FreeAt w2 s F R P q most last G ((es.take 0).flatMap En.hs) w2) := Lib.hid ⟨F, H, by rw [List.take_zero, List.flatMap_nil, dropR_nil]; exact hS2.out, Turn.refl _ _⟩
    clear hb2 hrow hL hCH hin hg1
    go_wp2_with fail
    go_loopw [20] (fun iv wr => ∃ k : Nat, k ≤ es.length ∧ iv = .int .i64 k ∧ Hid (FreeAt w2 s F R P q most last G ((es.take k).flatMap En.hs) wr)) (fun iv _ => es.length - (intOf iv).toNat)
    case atStart => exact ⟨0, by omega, rfl, h20⟩
    case round =>
      obtain ⟨k, hk, rfl, hfr⟩ := hrel
      by_cases hlt : k < es.length
      · obtain ⟨F1, H1, hS, hT⟩ := hfr.out
        have hcell := hT.cell (hcells.out k hlt) (by rw [show ((⟨g, 0, none⟩ : Addr).add k).block = g by unfold Addr.add; split <;> simp_all]; exact hgF.out)
        have hadd : (⟨g, 0, none⟩ : Addr).add k = ⟨g, k, none⟩ := by unfold Addr.add; split <;> simp_all
        rw [hadd] at hcell
        obtain ⟨en, hen⟩ : ∃ en, es[k] = en := ⟨_, rfl⟩
        obtain ⟨a1, a2, a3, a4, a5, _⟩ := hat.out es[k] (List.getElem_mem hlt)
        have htake : Hid ((es.take (k + 1)).flatMap En.hs = (es.take k).flatMap En.hs ++ en.hs) := Lib.hid (by rw [List.take_succ_eq_append_getElem hlt, List.flatMap_append, hen]; simp)
        rw [hen] at hcell a1 a2 a3 a4 a5
        have hnd := hnH.out
        rw [← List.take_append_drop (k + 1) es, List.flatMap_append, htake.out, List.append_assoc] at hnd
        obtain ⟨l, hl⟩ : ∃ l, (es.take k).flatMap En.hs = l := ⟨_, rfl⟩
        rw [hl] at hS hnd htake
        have hnd2 := (List.nodup_append.1 (List.append_assoc l en.hs _ ▸ hnd)).1
        have hdis := (List.nodup_append.1 hnd2).2.2
        have hn3 := (List.nodup_append.1 hnd2).2.1
        obtain ⟨nh, nd, nk, nv⟩ := en
        simp only [En.hs] at hdis hn3 a1 a2 a3 a4 a5
        have o1 : nh ∉ l := fun hm => hdis nh hm nh (by simp) rfl
        have o2 : nd.key ∉ l := fun hm => hdis _ hm nd.key (by simp) rfl
        have o3 : nd.val ∉ l := fun hm => hdis _ hm nd.val (by simp) rfl
        simp only [List.nodup_cons, List.mem_cons, List.not_mem_nil, or_false, not_or, not_false_eq_true, List.nodup_nil, and_true] at hn3
        obtain ⟨⟨n12, n13⟩, n23⟩ := hn3
        rw [← dropR_out (R := R) o1] at a1
        rw [← dropR_out (R := R) o2] at a2
        rw [← dropR_out (R := R) o3] at a3
        obtain ⟨n1, hrd1, _⟩ := hS.rd
        have hx1 := (hrd1.u64 a1).1
        obtain ⟨e1, e2⟩ := nodeR_at a1
        have hG := Lib.hid (nget_lit hrd1 nh hx1 nd e2 0 e1)
        obtain ⟨t1, _⟩ := Tx.text_words nk a4
        obtain ⟨t2, _⟩ := Tx.text_words nv a5
        have hSH1 := Lib.hid hS
        have hTH1 := Lib.hid hT
        have hD1 := Lib.hid (fun w' (hb : Below wr.heap.size wr w') => bdrop_at (hSH1.out.below hb) (hshH.out.drop l) a2 t1)
        have a3' : updR (dropR R l) nd.key none nd.val = some (Tx.wordsL nv.data.toList) := (updR_other (fun e => n23 e.symm)).trans a3
        have a1' : updR (updR (dropR R l) nd.key none) nd.val none nh = some nd.ws := (updR_other n13).trans ((updR_other n12).trans a1)
        have a3H := Lib.hid a3'
        have a1H := Lib.hid a1'
        have t2H := Lib.hid t2
        have hFb : Hid (∀ b, F1 b → b < wr.heap.size) := Lib.hid (fun b hb => hSH1.out.lt hb)
        clear hS hT a1 a2 a3 a3' a1' t1 t2 hnd hnd2 hdis hrd1 e1 e2 hadd o1 o2 o3 hen hfr n12 n13 n23
        go_wp2_with fail
        refine hG.out.mono ?_
        rintro e w3 ⟨rfl, hb3⟩
        have hb3H := Lib.hid hb3
        have hz3 := hb3.size
        clear hb3
        go_wp2_with fail
        have hb4 : Below wr.heap.size wr (w3.alloc (Obj.cells #[Value.int IntKind.u64 (nd.key : Nat), Value.int IntKind.u64 (nd.val : Nat), Value.int IntKind.u64 (nd.left : Nat), Value.int IntKind.u64 (nd.right : Nat), Value.int IntKind.u64 (nd.mark : Nat), Value.int IntKind.u64 (nd.size : Nat)] 50)) := hb3H.out.alloc hz3 _
        have q1 : (w3.alloc (Obj.cells #[Value.int IntKind.u64 (nd.key : Nat), Value.int IntKind.u64 (nd.val : Nat), Value.int IntKind.u64 (nd.left : Nat), Value.int IntKind.u64 (nd.right : Nat), Value.int IntKind.u64 (nd.mark : Nat), Value.int IntKind.u64 (nd.size : Nat)] 50)).cell? ⟨w3.heap.size, 1, none⟩ = some (.int .u64 (nd.val : Nat)) := by go_simp
        have hnF : ¬ F1 w3.heap.size := fun hf => by have := hFb.out _ hf; omega
        have hlt4 : w3.heap.size < (w3.alloc (Obj.cells #[Value.int IntKind.u64 (nd.key : Nat), Value.int IntKind.u64 (nd.val : Nat), Value.int IntKind.u64 (nd.left : Nat), Value.int IntKind.u64 (nd.right : Nat), Value.int IntKind.u64 (nd.mark : Nat), Value.int IntKind.u64 (nd.size : Nat)] 50)).heap.size := by simp
        refine (hD1.out _ hb4).mono ?_
        rintro e w5 ⟨F5, rfl, hS5, hT5⟩
        have hq5 := hT5.cell q1 hnF
        have hT5H := Lib.hid ((Turn.below (F := F1) hb4).trans hT5)
        have hD2 := Lib.hid (bdrop_at hS5 ((hshH.out.drop l).upd _ _ (fun ws e => by cases e)) a3H.out t2H.out)
        clear hb4 q1 hS5 hT5 hnF hlt4 hD1 hG
        go_wp2_with fail
        refine hD2.out.mono ?_
        rintro e w6 ⟨F6, rfl, hS6, hT6⟩
        have hT6H := Lib.hid (hT5H.out.trans hT6)
        have hD3 := Lib.hid (ndrop_at hS6 a1H.out rfl)
        clear hS6 hT6 hq5 hD2
        go_wp2_with fail
        refine hD3.out.mono ?_
        rintro e w7 ⟨F7, rfl, hS7, hT7⟩
        rw [dropR_three] at hS7
        have hfin : Hid (FreeAt w2 s F R P q most last G ((es.take (k + 1)).flatMap En.hs) w7) := Lib.hid ⟨F7, _, by rw [htake.out]; exact hS7, hTH1.out.trans (hT6H.out.trans hT7)⟩
        clear hS7 hT7 hD3
        go_wp2
        go_roundw
        case rel => exact ⟨k + 1, by omega, by go_num, hfin⟩
        case measure => simp [intOf]; omega
      · obtain rfl : k = es.length := by omega
        obtain ⟨F1, H1, hS, hT⟩ := hfr.out
        rw [List.take_length] at hS
        have hSF := Lib.hid hS
        have hTF := Lib.hid ((Turn.below (F := F) hb2H.out).trans hT)
        clear hS hT hfr
        go_wp2
        go_ret
        exact ⟨F1, H1, rfl, hSF.out, hTF.out⟩
end
end Go.Proofs.YtdcglpagdnhkgaaGreatDoor
/- Slices of pairs; loftref11: Rank, Find. -/
set_option linter.unusedVariables false
set_option linter.unusedSimpArgs false
namespace Go.Proofs.YtdcglpagdnhkgaaGreatDoor
open Go.RowKit Go.Shelf
abbrev Pr := ByteArray × ByteArray
def prsV (l : List Pr) : List Value := l.flatMap fun p => [.string p.1, .string p.2]
theorem prsV_len (l : List Pr) : (prsV l).length = l.length * 2 := by
  induction l with
  | nil => rfl
  | cons p l ih => simp only [prsV, List.flatMap_cons, List.length_append, List.length_cons, List.length_nil] at ih ⊢; omega
theorem prsV_append (l m : List Pr) : prsV (l ++ m) = prsV l ++ prsV m := by simp [prsV]
theorem prsV_at : ∀ (l : List Pr) (k : Nat) (h : k < l.length), (prsV l)[k * 2]? = some (.string l[k].1) ∧ (prsV l)[k * 2 + 1]? = some (.string l[k].2)
  | p :: l, 0, _ => ⟨rfl, rfl⟩
  | p :: l, k + 1, h => by
    have := prsV_at l k (by simpa using h)
    rw [show (k + 1) * 2 = k * 2 + 2 by omega]
    exact this
theorem prsV_drop : ∀ (l : List Pr) (k : Nat), prsV (l.drop k) = (prsV l).drop (k * 2)
  | [], k => by simp [prsV]
  | p :: l, 0 => by simp
  | p :: l, k + 1 => by
    rw [List.drop_succ_cons, prsV_drop l k, show (k + 1) * 2 = k * 2 + 2 by omega]
    rfl
theorem prsV_take : ∀ (l : List Pr) (k : Nat), prsV (l.take k) = (prsV l).take (k * 2)
  | [], k => by simp [prsV]
  | p :: l, 0 => by simp [prsV]
  | p :: l, k + 1 => by
    rw [List.take_succ_cons, show (k + 1) * 2 = k * 2 + 2 by omega]
    show [Value.string p.1, Value.string p.2] ++ prsV (l.take k) = _
    rw [prsV_take l k]
    rfl
theorem prsV_one (l : List Pr) : ∀ u ∈ prsV l, u.oneCell' = true := by
  intro u hu
  obtain ⟨p, _, hp⟩ := List.mem_flatMap.1 hu
  rcases List.mem_cons.1 hp with rfl | hp
  · rfl
  · rcases List.mem_cons.1 hp with rfl | hp
    · rfl
    · simp at hp
/-- a slice whose elements are pairs; it lies below block B -/
def Prs (w : World) (B : Nat) (A : Option Addr) (l : List Pr) : Prop :=
  l = [] ∨ ∃ b o, A = some ⟨b, o, none⟩ ∧ b < B ∧ ∀ j u, (prsV l)[j]? = some u → w.cell? ⟨b, o + j, none⟩ = some u
section
variable {w w' : World} {B B' : Nat} {A : Option Addr} {l : List Pr}
theorem Prs.nil (w : World) (B : Nat) (A : Option Addr) : Prs w B A [] := .inl rfl
theorem Prs.keep (h : Prs w B A l) (hk : ∀ b, b < B → w'.heap[b]? = w.heap[b]?) : Prs w' B A l := by
  rcases h with h | ⟨b, o, rfl, hb, hc⟩
  · exact .inl h
  · exact .inr ⟨b, o, rfl, hb, fun j u hu => (World.cell?_of_block (a := ⟨b, o + j, none⟩) (hk b hb)).trans (hc j u hu)⟩
theorem Prs.below (h : Prs w B A l) (hb : Below B w w') : Prs w' B A l := h.keep fun b hlt => hb.block b hlt
theorem Prs.more (h : Prs w B A l) (hB : B ≤ B') : Prs w B' A l := by
  rcases h with h | ⟨b, o, rfl, hb, hc⟩
  · exact .inl h
  · exact .inr ⟨b, o, rfl, by omega, hc⟩
theorem Prs.at' (h : Prs w B A l) {k : Nat} (hk : k < l.length) : ∃ b o, A = some ⟨b, o, none⟩ ∧ b < B ∧ w.cell? ⟨b, o + k * 2, none⟩ = some (.string l[k].1) ∧ w.cell? ⟨b, o + k * 2 + 1, none⟩ = some (.string l[k].2) := by
  rcases h with rfl | ⟨b, o, rfl, hb, hc⟩
  · simp at hk
  · obtain ⟨h1, h2⟩ := prsV_at l k hk
    exact ⟨b, o, rfl, hb, hc _ _ h1, by rw [Nat.add_assoc]; exact hc _ _ h2⟩
theorem Prs.take (h : Prs w B A l) (k : Nat) : Prs w B A (l.take k) := by
  rcases h with rfl | ⟨b, o, rfl, hb, hc⟩
  · left; simp
  · refine .inr ⟨b, o, rfl, hb, fun j u hu => hc j u ?_⟩
    rw [prsV_take, List.getElem?_take] at hu
    split at hu
    · exact hu
    · cases hu
theorem Prs.drop (h : Prs w B A l) {k c : Nat} (hk : k ≤ l.length) (hc : l.length ≤ c) : Prs w B (if c = k then A else A.map (·.add (k * 2))) (l.drop k) := by
  by_cases he : k = l.length
  · subst he; left; simp
  · rcases h with rfl | ⟨b, o, rfl, hb, hcell⟩
    · left; simp
    · rw [if_neg (by omega)]
      refine .inr ⟨b, o + k * 2, ?_, hb, fun j u hu => ?_⟩
      · show some ((⟨b, o, none⟩ : Addr).add (k * 2)) = _
        unfold Addr.add; split <;> simp_all
      · rw [Nat.add_assoc]
        refine hcell _ _ ?_
        rw [prsV_drop, List.getElem?_drop] at hu
        exact hu
theorem Prs.of_own {base n c : Nat} (h : w.ownsRow base 39 2 (.slice A n c) n (prsV l)) (hn : n = l.length) : Prs w w.heap.size A l := by
  by_cases hl : l = []
  · exact .inl hl
  · right
    have hp : 0 < l.length := List.length_pos_iff.2 hl
    rcases h.2 with ⟨_, h0⟩ | ⟨g, cap, cur, hv, hb, hg, _⟩
    · omega
    · cases hv
      refine ⟨g, 0, rfl, (Array.getElem?_eq_some_iff.1 hg).1, fun j u hu => ?_⟩
      have := h.cells (g := g) rfl j u hu
      rw [show (⟨g, 0, none⟩ : Addr).add j = ⟨g, j, none⟩ by unfold Addr.add; split <;> simp_all] at this
      rw [Nat.zero_add]
      exact this
theorem Tryz.under_pairs : Tryz.prog.underlying 22 = some (.slice 39) := by kernel_rfl
theorem Tryz.info_pair : (Tryz.prog.info? 39).map (fun i => (i.zero, i.size, i.bytes)) = some (some (.agg #[.string ⟨#[]⟩, .string ⟨#[]⟩]), 2, 32) := by kernel_rfl
/-- 'append(out, ys...)', out the call's own -/
theorem app_prs {ops : Array Oper} {rest : List Oper} {o : Oper} {a : Act} {Q : Exit → Act → World → Prop} (hgd : o.guard = none) (s x : Operand)
    (ho : o.op = .call { callee := .builtin .append, args := #[s, x], argTypes := #[22, 22] }) (w : World) (base : Nat) (v : Value) (xs : List Pr) (hs : a.eval s = v)
    (hown : w.ownsRow base 39 2 v xs.length (prsV xs)) (B : Nat) (A : Option Addr) (m c : Nat) (ys : List Pr) (hx : a.eval x = .slice A m c) (hm : m = ys.length) (hr : Prs w B A ys) (hA : A = none → c = 0) (hlen : xs.length + ys.length ≤ 100000) (hbase : base ≤ w.heap.size)
    (h : ∀ v' w', w'.ownsRow base 39 2 v' (xs ++ ys).length (prsV (xs ++ ys)) → w.grownBy w' v.ownBlock → (v'.ownBlock = v.ownBlock ∨ v'.ownBlock = some w.heap.size) → wpList Tryz.prog ops Q rest (a.put o.dst v') w') :
    wpList Tryz.prog ops Q (o :: rest) a w := by
  obtain ⟨i0, hi, hz0, hz1, hz2⟩ := info_parts Tryz.info_pair
  subst hm
  cases A with
  | none =>
    have hy : ys = [] := by
      rcases hr with h | ⟨b, o, h, _⟩
      · exact h
      · cases h
    subst hy
    have := hA rfl
    subst this
    refine wpList_append_own_none hgd s x 22 ho base 39 i0 2 Tryz.under_pairs hi v xs.length (prsV xs) hs hown hx ?_
    exact h v w (by simpa using hown) (World.grownBy.refl w _) (.inl rfl)
  | some ad =>
    have hcells : ∀ j u, (prsV ys)[j]? = some u → w.cell? (ad.add j) = some u := by
      intro j u hu
      rcases hr with rfl | ⟨b, o, hA', _, hc⟩
      · simp [prsV] at hu
      · cases hA'
        rw [show (⟨b, o, none⟩ : Addr).add j = ⟨b, o + j, none⟩ by unfold Addr.add; split <;> simp_all]
        exact hc j u hu
    refine wpList_append_own_at w hgd s x 22 ho base 39 i0 (.agg #[.string ⟨#[]⟩, .string ⟨#[]⟩]) 2 32 Tryz.under_pairs hi hz0 hz1 hz2 rfl (by decide) v xs.length (prsV xs) hs hown ad ys.length c (prsV ys) hx (prsV_len ys) hcells (prsV_one ys) (by unfold maxLen; omega) (by omega) hbase ?_
    intro v' w' h1 h2 _ h4
    exact h v' w' (by rw [List.length_append, prsV_append]; exact h1) h2 h4
end
/-- loftref08.Compare -/
theorem rcmp_at (a b : ByteArray) (w : World) (ha : a.size ≤ 9223372036854775807) (hb : b.size ≤ 9223372036854775807) :
    Calls Tryz.prog 35 #[.string a, .string b] w fun e w' => e = .returned (.int .i64 (Tx.cmp a b)) ∧ Below w.heap.size w w' :=
  (Tx.refCmp_any a b w ha hb).mono fun e w' ⟨he, d, hd⟩ => ⟨he, by rw [hd]; exact Tx.drewN_below w d⟩
theorem rankL_take (l : List Pr) (k : Nat) (h : k < l.length) (key : ByteArray) : rankL (l.take (k + 1)) key = rankL (l.take k) key + if Tx.cmp l[k].1 key < 0 then 1 else 0 := by
  rw [List.take_succ_eq_append_getElem h, rankL_append, rankL_cons]
  simp [rankL]
def Sized (l : List Pr) : Prop := ∀ p ∈ l, p.1.size ≤ 9223372036854775807 ∧ p.2.size ≤ 9223372036854775807
set_option maxRecDepth 100000 in
theorem refRank_at {w : World} {B c : Nat} {A : Option Addr} {l : List Pr} (h : Prs w B A l) (hB : B ≤ w.heap.size) (hl : l.length ≤ 100000) (hs : Sized l) (key : ByteArray) (hk : key.size ≤ 9223372036854775807) :
    Calls Tryz.prog 18 #[.slice A l.length c, .string key] w fun e w' => e = .returned (.int .i64 (rankL l key : Nat)) ∧ Below w.heap.size w w' := by
  have hH := Lib.hid h
  have hcm := Lib.hid (fun (p : Pr) (hp : p ∈ l) (W : World) => rcmp_at p.1 key W (hs p hp).1 hk)
  clear h hs
  go_enter Tryz.func18, Tryz.ntmps18
  go_wp2_with fail
  go_loopw [5, 6] (fun nv iv wr => ∃ k : Nat, k ≤ l.length ∧ iv = .int .i64 k ∧ nv = .int .i64 (rankL (l.take k) key : Nat) ∧ Hid (Below w.heap.size w wr)) (fun _ iv _ => l.length - (intOf iv).toNat)
  case atStart => exact ⟨0, by omega, rfl, rfl, Lib.hid (Below.refl _ _)⟩
  case round =>
    obtain ⟨k, hk2, rfl, rfl, hb⟩ := hrel
    have hr := rankL_le (l.take k) key
    rw [List.length_take] at hr
    have hr2 : rankL (l.take k) key ≤ k := by omega
    by_cases hlt : k < l.length
    · obtain ⟨b, o, hA, _, c1, _⟩ := (hH.out.below (hb.out.mono hB)).at' hlt
      have hrk := Lib.hid (rankL_take l k hlt key)
      have hcall := Lib.hid (hcm.out l[k] (List.getElem_mem hlt))
      generalize l[k] = p at *
      obtain ⟨z, hz⟩ : ∃ z, Tx.cmp p.1 key = z := ⟨_, rfl⟩
      rw [hz] at hrk hcall
      clear hz hr
      generalize hn9 : rankL (l.take k) key = n9 at *
      clear hn9
      subst hA
      have hz0 : z < 0 ∨ ¬ z < 0 := by omega
      rcases hz0 with h0 | h0
      all_goals
        go_wp2_with fail
        refine (hcall.out _).mono ?_
        rintro e w1 ⟨rfl, hb1⟩
        have hb1H := Lib.hid (hb.out.trans (hb1.mono hb.out.size))
        clear hb1 c1
        go_wp2
        go_roundw
        case rel => exact ⟨k + 1, by omega, by go_num, by rw [hrk.out]; first | (rw [if_pos h0]; go_num) | (rw [if_neg (by omega)]; rfl), hb1H⟩
        case measure => simp [intOf]; omega
    · obtain rfl : k = l.length := by omega
      have hfin : Hid (rankL (l.take l.length) key = rankL l key) := Lib.hid (by rw [List.take_length])
      go_wp2
      go_ret
      exact ⟨by rw [hfin.out]; rfl, hb.out⟩
/-- what loftref11.Find answers -/
def findL (l : List Pr) (k : ByteArray) : Int := if (l[rankL l k]?).map (·.1) = some k then ((rankL l k : Nat) : Int) else -1
theorem findL_lt {l : List Pr} {k : ByteArray} (h : rankL l k < l.length) : findL l k = if (l[rankL l k]'h).1 = k then ((rankL l k : Nat) : Int) else -1 := by
  unfold findL
  simp only [List.getElem?_eq_getElem h, Option.map_some, Option.some.injEq]
theorem findL_ge {l : List Pr} {k : ByteArray} (h : ¬ rankL l k < l.length) : findL l k = -1 := by
  unfold findL
  simp only [List.getElem?_eq_none (Nat.le_of_not_lt h), Option.map_none, reduceCtorEq, if_false]
theorem str_beq (a b : ByteArray) : (a.toList == b.toList) = decide (a = b) := by
  rw [Tx.cmp_beq, Bool.eq_iff_iff, beq_iff_eq, decide_eq_true_iff, cmp_zero]
set_option maxRecDepth 100000 in
theorem refFind_at {w : World} {B c : Nat} {A : Option Addr} {l : List Pr} (h : Prs w B A l) (hB : B ≤ w.heap.size) (hl : l.length ≤ 100000) (hs : Sized l) (key : ByteArray) (hk : key.size ≤ 9223372036854775807) :
    Calls Tryz.prog 16 #[.slice A l.length c, .string key] w fun e w' => e = .returned (.int .i64 (findL l key)) ∧ Below w.heap.size w w' := by
  have hR := Lib.hid (refRank_at (c := c) h hB hl hs key hk)
  have hle := rankL_le l key
  have hv1 := Lib.hid (fun h => findL_lt (l := l) (k := key) h)
  have hv2 := Lib.hid (fun h => findL_ge (l := l) (k := key) h)
  have hH := Lib.hid h
  generalize rankL l key = n at *
  by_cases hlt : n < l.length
  · have hsb := str_beq l[n].1 key
    have hv := Lib.hid (hv1.out hlt)
    have hd : decide ((n : Int) < (l.length : Int)) = true := by simp; omega
    obtain ⟨p, hp⟩ : ∃ p, l[n] = p := ⟨_, rfl⟩
    have hcH := Lib.hid (fun W (hb : Below w.heap.size w W) => by have := (hH.out.below (hb.mono hB)).at' hlt; rw [hp] at this; exact this)
    rw [hp] at hsb hv
    clear hp
    by_cases hpk : p.1 = key
    · have hq : (p.1.toList == key.toList) = true := by rw [hsb]; exact decide_eq_true hpk
      rw [if_pos hpk] at hv
      clear hsb hpk h hs
      go_enter Tryz.func16, Tryz.ntmps16
      go_wp2_with fail
      refine hR.out.mono ?_
      rintro e w1 ⟨rfl, hb1⟩
      obtain ⟨b, o, rfl, _, c1, _⟩ := hcH.out w1 hb1
      have hb1H := Lib.hid hb1
      clear hb1
      go_wp2
      go_ret
      exact ⟨by rw [hv.out]; rfl, hb1H.out⟩
    · have hq : (p.1.toList == key.toList) = false := by rw [hsb]; exact decide_eq_false hpk
      rw [if_neg hpk] at hv
      clear hsb hpk h hs
      go_enter Tryz.func16, Tryz.ntmps16
      go_wp2_with fail
      refine hR.out.mono ?_
      rintro e w1 ⟨rfl, hb1⟩
      obtain ⟨b, o, rfl, _, c1, _⟩ := hcH.out w1 hb1
      have hb1H := Lib.hid hb1
      clear hb1
      go_wp2
      go_ret
      exact ⟨by rw [hv.out]; rfl, hb1H.out⟩
  · have hd : decide (n < l.length) = false := by simp; omega
    have hv := Lib.hid (hv2.out hlt)
    clear h hs hlt
    go_enter Tryz.func16, Tryz.ntmps16
    go_wp2_with fail
    refine hR.out.mono ?_
    rintro e w1 ⟨rfl, hb1⟩
    have hb1H := Lib.hid hb1
    clear hb1
    go_wp2
    go_ret
    exact ⟨by rw [hv.out]; rfl, hb1H.out⟩
end Go.Proofs.YtdcglpagdnhkgaaGreatDoor
/- loftref11: Put, Sorted, Long. -/
set_option linter.unusedVariables false
set_option linter.unusedSimpArgs false
namespace Go.Proofs.YtdcglpagdnhkgaaGreatDoor
open Go.RowKit Go.Shelf
/-- what loftref11.Put answers -/
def putL (l : List Pr) (p : Pr) : List Pr := l.take (rankL l p.1) ++ p :: l.drop (if (l[rankL l p.1]?).map (·.1) = some p.1 then rankL l p.1 + 1 else rankL l p.1)
theorem putL_len (l : List Pr) (p : Pr) : (putL l p).length ≤ l.length + 1 := by
  have := rankL_le l p.1
  unfold putL
  simp only [List.length_append, List.length_take, List.length_cons, List.length_drop]
  split <;> omega
theorem putL_mem {l : List Pr} {p q : Pr} (h : q ∈ putL l p) : q = p ∨ q ∈ l := by
  unfold putL at h
  rcases List.mem_append.1 h with h | h
  · exact .inr (List.mem_of_mem_take h)
  · rcases List.mem_cons.1 h with h | h
    · exact .inl h
    · exact .inr (List.mem_of_mem_drop h)
theorem Sized.put {l : List Pr} {p : Pr} (h : Sized l) (hp : p.1.size ≤ 9223372036854775807 ∧ p.2.size ≤ 9223372036854775807) : Sized (putL l p) := fun q hq => by
  rcases putL_mem hq with rfl | hq
  · exact hp
  · exact h q hq
theorem own2_lt {w : World} {base : Nat} {e : TypeId} {v : Value} {n : Nat} {xs : List Value} (h : w.ownsRow base e 2 v n xs) {k : Nat} (hk : v.ownBlock = some k) : base ≤ k ∧ k < w.heap.size := by
  rcases h.2 with ⟨rfl, _⟩ | ⟨g, cap, cur, rfl, h2, h3, _⟩
  · simp [Value.ownBlock] at hk
  · have : g = k := by simpa [Value.ownBlock] using hk
    subst this
    exact ⟨h2, (Array.getElem?_eq_some_iff.1 h3).1⟩
theorem own_lower {w : World} {base base' size : Nat} {e : TypeId} {v : Value} {n : Nat} {xs : List Value} (h : w.ownsRow base e size v n xs) (hb : base' ≤ base) : w.ownsRow base' e size v n xs := by
  refine ⟨h.1, ?_⟩
  rcases h.2 with h0 | ⟨g, cap, cur, h1, h2, h3⟩
  · exact .inl h0
  · exact .inr ⟨g, cap, cur, h1, by omega, h3⟩
theorem own_empty (w : World) (e : TypeId) : (w.alloc (.cells #[] e)).ownsRow w.heap.size e 2 (.slice (some ⟨w.heap.size, 0, none⟩) 0 0) 0 [] :=
  ⟨rfl, .inr ⟨w.heap.size, 0, #[], rfl, Nat.le_refl _, World.alloc_heap_new w _, Nat.le_refl _, Nat.zero_le _, rfl, rfl⟩⟩
theorem prs_one (w : World) (p : Pr) : Prs (w.alloc (.cells #[.string p.1, .string p.2] 39)) (w.heap.size + 1) (some ⟨w.heap.size, 0, none⟩) [p] := by
  refine .inr ⟨w.heap.size, 0, rfl, by omega, fun j u hu => ?_⟩
  have hn : (w.alloc (.cells #[.string p.1, .string p.2] 39)).heap[w.heap.size]? = some (.cells #[.string p.1, .string p.2] 39 (0, 0)) := World.alloc_heap_new w _
  generalize w.alloc (.cells #[.string p.1, .string p.2] 39) = V at *
  rcases j with _ | _ | j
  · simp [prsV] at hu; subst hu; simp [World.cell?, hn]
  · simp [prsV] at hu; subst hu; simp [World.cell?, hn]
  · simp [prsV] at hu
/-- 'l[k:]' -/
theorem slice_from (A : Option Addr) (n k c : Nat) (hk : k ≤ n) (hc : n ≤ c) : ∃ A', (∀ W, (Instr.sliceAt 22 (.slice A n c) (some (.int .i64 (k : Nat))) none none).run Tryz.prog W = .ok (.slice A' (n - k) (c - k)) W) ∧ (∀ W, (Instr.slice 22 (.slice A n c) (some (.int .i64 (k : Nat))) none none).run Tryz.prog W = .ok (.slice A' (n - k) (c - k)) W) ∧
    (∀ (W : World) (B : Nat) (l : List Pr), l.length = n → Prs W B A l → Prs W B A' (l.drop k)) ∧ ((A = none → c = 0) → A' = none → c - k = 0) := by
  have e2 : ∀ W, (Instr.slice 22 (.slice A n c) (some (.int .i64 (k : Nat))) none none).run Tryz.prog W = .ok (.slice (if c = k then A else A.map (·.add (k * 2))) (n - k) (c - k)) W := fun W => by
    rw [run_slice_l W 22 A n c (by kernel_rfl) .i64 (k : Nat) (by omega) (by omega)]
    rw [show Tryz.prog.elem 22 = 39 by kernel_rfl, show (sizeOf 39).run Tryz.prog W = .ok 2 W by kernel_rfl]
    simp [sliced, Result.andThen]
  refine ⟨if c = k then A else A.map (·.add (k * 2)), fun W => ?_, e2, fun W B l hl h => ?_, fun hA h => ?_⟩
  · rw [run_sliceAt_slice W 22 _ _ _ _ (by kernel_rfl)]
    exact e2 W
  · exact h.drop (by omega) (by omega)
  · by_cases he : c = k
    · omega
    · rw [if_neg he] at h
      cases A with
      | none => have := hA rfl; omega
      | some a => cases h
theorem own_below {w w1 w2 : World} {base : Nat} {e : TypeId} {n : Nat} {v : Value} {xs : List Value} (hb : Below base w w1) (hown : w1.ownsRow base e 2 v n xs) (hg : w1.grownBy w2 v.ownBlock) (hB : base ≤ w1.heap.size) : Below base w w2 :=
  hb.trans ⟨hg.os, hg.tape, hg.output, hg.size, fun k hk => hg.block k (by omega) (fun e => by
    rcases hown.2 with ⟨rfl, _⟩ | ⟨g, cap, cur, rfl, hge, _⟩
    · simp [Value.ownBlock] at e
    · have : k = g := by simpa [Value.ownBlock] using e
      omega)⟩
set_option maxHeartbeats 2000000 in
set_option maxRecDepth 100000 in
theorem refPut_at {w : World} {B c : Nat} {A : Option Addr} {l : List Pr} (h : Prs w B A l) (hB : B ≤ w.heap.size) (hA : A = none → c = 0) (hc : l.length ≤ c) (hl : l.length ≤ 50000) (hs : Sized l) (p : Pr) (hk : p.1.size ≤ 9223372036854775807) :
    Calls Tryz.prog 44 #[.slice A l.length c, .agg #[.string p.1, .string p.2]] w fun e w' => ∃ v, e = .returned v ∧ w'.ownsRow w.heap.size 39 2 v (putL l p).length (prsV (putL l p)) ∧ Below w.heap.size w w' := by
  have hR := Lib.hid (fun W (hb : Below w.heap.size w W) => refRank_at (c := c) (h.below (hb.mono hB)) (Nat.le_trans hB hb.size) (by omega) hs p.1 hk)
  have hle := rankL_le l p.1
  obtain ⟨P, hP⟩ : ∃ P, putL l p = P := ⟨_, rfl⟩
  have hv : P = l.take (rankL l p.1) ++ p :: l.drop (if (l[rankL l p.1]?).map (·.1) = some p.1 then rankL l p.1 + 1 else rankL l p.1) := hP ▸ rfl
  rw [hP]
  have hH := Lib.hid h
  generalize rankL l p.1 = n at *
  obtain ⟨b, hb⟩ : ∃ b : Bool, ((l[n]?).map (·.1) = some p.1 ↔ b = true) := ⟨decide ((l[n]?).map (·.1) = some p.1), by simp⟩
  obtain ⟨n', hn'⟩ : ∃ n', n' = if b = true then n + 1 else n := ⟨_, rfl⟩
  have hv2 : P = l.take n ++ p :: l.drop n' := by
    rw [hv, hn']
    by_cases hq : (l[n]?).map (·.1) = some p.1
    · simp only [if_pos hq, if_pos (hb.1 hq)]
    · simp only [if_neg hq, if_neg (fun e => hq (hb.2 e))]
  have hbl : b = true → n < l.length := fun e => by
    have := hb.2 e
    by_cases h : n < l.length
    · exact h
    · rw [List.getElem?_eq_none (by omega)] at this; cases this
  have hn'l : n' ≤ l.length := by
    rw [hn']
    split
    · have := hbl ‹_›; omega
    · omega
  have hn'H := Lib.hid hn'
  have hblH := Lib.hid hbl
  clear hn' hbl
  have hAH := Lib.hid hA
  obtain ⟨A', sl1, sl2, hdr, hA'⟩ := slice_from A l.length n' c hn'l hc
  have hdrH := Lib.hid hdr
  have hA'H := Lib.hid (hA' hA)
  clear hdr hA'
  have htl : n = (l.take n).length := by rw [List.length_take]; omega
  have htlH := Lib.hid htl
  clear htl hA
  have hvH := Lib.hid hv2
  have hbH := Lib.hid hb
  clear h hs hP hv hv2 hb
  go_enter Tryz.func44, Tryz.ntmps44
  go_wp2_with fail
  have hb0 : Below w.heap.size w (w.alloc (Obj.cells #[Value.string p.1, Value.string p.2] 39)) := (Below.refl _ w).alloc (Nat.le_refl _) _
  have q0 : (w.alloc (Obj.cells #[Value.string p.1, Value.string p.2] 39)).cell? ⟨w.heap.size, 0, none⟩ = some (.string p.1) := by go_simp
  have q1 : (w.alloc (Obj.cells #[Value.string p.1, Value.string p.2] 39)).cell? ⟨w.heap.size, 1, none⟩ = some (.string p.2) := by go_simp
  refine (hR.out _ hb0).mono ?_
  rintro e w1 ⟨rfl, hb1⟩
  have hbw1 := hb0.trans (hb1.mono hb0.size)
  have r0 := (hb1.cell (p := ⟨w.heap.size, 0, none⟩) (cell_lt q0)).trans q0
  have r1 := (hb1.cell (p := ⟨w.heap.size, 1, none⟩) (cell_lt q1)).trans q1
  have hlt1 : w.heap.size < w1.heap.size := cell_lt (a := ⟨w.heap.size, 0, none⟩) r0
  have hbwH := Lib.hid hbw1
  clear hb1 hbw1 q0 q1 hb0
  have hown0 := Lib.hid (own_empty w1 39)
  have hP1 := Lib.hid ((hH.out.below (hbwH.out.mono hB)).more (Nat.le_trans hB hbwH.out.size))
  have r0H := Lib.hid r0
  have tok : True := trivial
  go_wp2_with (first
    | (at_builtin; have _t := tok; go_must (refine app_prs rfl (.tmp 11) (.tmp 14) rfl _ w1.heap.size _ [] rfl hown0.out w1.heap.size A n c (l.take n) rfl htlH.out ((hP1.out.below ((Below.refl _ w1).alloc (Nat.le_refl _) _)).take n) hAH.out (by simp; omega) (by simp) ?_); intro v2 w2 hown2 hg2 _; clear tok; have hb2 := own_below ((Below.refl _ w1).alloc (Nat.le_refl _) _) hown0.out hg2 (by simp); have s0 := (hb2.cell (p := ⟨w.heap.size, 0, none⟩) (cell_lt r0)).trans r0; have s1 := (hb2.cell (p := ⟨w.heap.size, 1, none⟩) (cell_lt r1)).trans r1; have hb2H := Lib.hid hb2; have hown2H := Lib.hid hown2; clear hb2 hown2 hg2 r0 r1)
    | (at_builtin; go_must (refine app_prs rfl (.tmp 16) (.tmp 18) rfl _ w1.heap.size _ ([] ++ l.take n) rfl (hown2H.out.alloc _) (w2.heap.size + 1) _ 1 1 [p] rfl rfl (prs_one w2 p) (fun e => by cases e) (by simp; omega) (by have := hb2H.out.size; simp; omega) ?_); intro v3 w3 hown3 hg3 _; have hb3 := own_below (hb2H.out.alloc hb2H.out.size _) (hown2H.out.alloc _) hg3 (by have := hb2H.out.size; simp; omega)))
  have hb3H := Lib.hid hb3
  have hown3H := Lib.hid hown3
  have u0 := (hb3.cell (p := ⟨w.heap.size, 0, none⟩) (cell_lt r0H.out)).trans r0H.out
  have hP3 := Lib.hid (hP1.out.below hb3)
  clear hb3 hown3 hg3 s0 s1
  have hP4 := Lib.hid (hdrH.out w3 w1.heap.size l rfl hP3.out)
  have hdl : Hid (l.length - n' = (l.drop n').length) := Lib.hid (by rw [List.length_drop])
  have hP5 : Hid (P = [] ++ l.take n ++ [p] ++ l.drop n') := Lib.hid (by rw [hvH.out]; simp)
  by_cases hlt : n < l.length
  · have hd : decide (n < l.length) = true := by simp; omega
    obtain ⟨bb, oo, hAs, _, c1, _⟩ := hP3.out.at' hlt
    subst hAs
    have hsb := str_beq l[n].1 p.1
    have hbn := hbH.out
    rw [List.getElem?_eq_getElem hlt, Option.map_some, Option.some.injEq] at hbn
    generalize l[n] = pn at *
    cases b with
    | true =>
      have hq : (pn.1.toList == p.1.toList) = true := by rw [hsb]; exact decide_eq_true (hbn.2 rfl)
      rw [if_pos rfl] at hn'H
      have hn2 := hn'H.out
      subst hn2
      clear hbn hsb hn'H
      push_cast at sl1 sl2
      go_wp2
      go_quiet (fail)
      go_wp2_with (at_builtin; go_must (refine app_prs rfl (.tmp 36) (.tmp 39) rfl _ w1.heap.size _ ([] ++ l.take n ++ [p]) rfl hown3H.out w1.heap.size A' _ _ (l.drop (n + 1)) rfl hdl.out hP4.out hA'H.out (by simp; omega) hb3H.out.size ?_); intro v4 w4 hown4 hg4 _)
      have hb4 := Lib.hid (own_below (hb3H.out.trans ((Tx.drewN_below w3 _).mono hb3H.out.size)) hown3H.out hg4 hb3H.out.size)
      rw [← hP5.out] at hown4
      have hfin := Lib.hid (own_lower hown4 hbwH.out.size)
      go_ret
      exact ⟨v4, rfl, hfin.out, hbwH.out.trans (hb4.out.mono hbwH.out.size)⟩
    | false =>
      have hq : (pn.1.toList == p.1.toList) = false := by
        rw [hsb]
        refine decide_eq_false (fun e => ?_)
        have := hbn.1 e
        cases this
      rw [if_neg (by simp)] at hn'H
      have hn2 := hn'H.out
      subst hn2
      clear hbn hsb hn'H
      go_wp2
      go_quiet (fail)
      go_wp2_with (at_builtin; go_must (refine app_prs rfl (.tmp 36) (.tmp 39) rfl _ w1.heap.size _ ([] ++ l.take n' ++ [p]) rfl hown3H.out w1.heap.size A' _ _ (l.drop (n')) rfl hdl.out hP4.out hA'H.out (by simp; omega) hb3H.out.size ?_); intro v4 w4 hown4 hg4 _)
      have hb4 := Lib.hid (own_below (hb3H.out.trans ((Tx.drewN_below w3 _).mono hb3H.out.size)) hown3H.out hg4 hb3H.out.size)
      rw [← hP5.out] at hown4
      have hfin := Lib.hid (own_lower hown4 hbwH.out.size)
      go_ret
      exact ⟨v4, rfl, hfin.out, hbwH.out.trans (hb4.out.mono hbwH.out.size)⟩
  · have hd : decide (n < l.length) = false := by simp; omega
    have hbf : b = false := by
      cases b with
      | true => exact absurd (hblH.out rfl) hlt
      | false => rfl
    rw [hbf, if_neg (by simp)] at hn'H
    have hn2 := hn'H.out
    subst hn2
    clear hn'H hbf hlt
    go_wp2
    go_quiet (fail)
    go_wp2_with (at_builtin; go_must (refine app_prs rfl (.tmp 36) (.tmp 39) rfl _ w1.heap.size _ ([] ++ l.take n' ++ [p]) rfl hown3H.out w1.heap.size A' _ _ (l.drop (n')) rfl hdl.out hP4.out hA'H.out (by simp; omega) hb3H.out.size ?_); intro v4 w4 hown4 hg4 _)
    have hb4 := Lib.hid (own_below (hb3H.out.trans ((Tx.drewN_below w3 _).mono hb3H.out.size)) hown3H.out hg4 hb3H.out.size)
    rw [← hP5.out] at hown4
    have hfin := Lib.hid (own_lower hown4 hbwH.out.size)
    go_ret
    exact ⟨v4, rfl, hfin.out, hbwH.out.trans (hb4.out.mono hbwH.out.size)⟩
end Go.Proofs.YtdcglpagdnhkgaaGreatDoor
/- loftref11: Sorted, Long. -/
set_option linter.unusedVariables false
set_option linter.unusedSimpArgs false
namespace Go.Proofs.YtdcglpagdnhkgaaGreatDoor
open Go.RowKit Go.Shelf
theorem own_pairs {w : World} {base n : Nat} {v : Value} {l : List Pr} (h : w.ownsRow base 39 2 v n (prsV l)) (hn : n = l.length) : ∃ A c, v = .slice A l.length c ∧ (A = none → c = 0) ∧ l.length ≤ c ∧ Prs w w.heap.size A l := by
  subst hn
  rcases h.2 with ⟨h1, h0⟩ | ⟨g, cap, cur, h1, h2, h3, h4, _⟩
  · have : l = [] := List.eq_nil_of_length_eq_zero h0
    subst this
    exact ⟨none, 0, h1, fun _ => rfl, Nat.le_refl _, .inl rfl⟩
  · refine ⟨some ⟨g, 0, none⟩, cap, h1, (fun e => by cases e), h4, ?_⟩
    rw [h1] at h
    exact Prs.of_own h rfl
def sortedL (l : List Pr) : List Pr := l.foldl putL []
theorem sortedL_snoc (l : List Pr) (k : Nat) (h : k < l.length) : sortedL (l.take (k + 1)) = putL (sortedL (l.take k)) l[k] := by
  unfold sortedL
  rw [List.take_succ_eq_append_getElem h, List.foldl_append]
  rfl
theorem foldl_putL_len : ∀ (l m : List Pr), (l.foldl putL m).length ≤ m.length + l.length
  | [], m => by simp
  | p :: l, m => by
    have h1 := foldl_putL_len l (putL m p)
    have h2 := putL_len m p
    simp only [List.foldl_cons, List.length_cons]
    omega
theorem sortedL_len (l : List Pr) : (sortedL l).length ≤ l.length := by
  have := foldl_putL_len l []
  simp only [List.length_nil, Nat.zero_add] at this
  exact this
theorem foldl_putL_mem : ∀ (l m : List Pr) (q : Pr), q ∈ l.foldl putL m → q ∈ m ∨ q ∈ l
  | [], m, q, h => .inl h
  | p :: l, m, q, h => by
    rcases foldl_putL_mem l (putL m p) q h with h | h
    · rcases putL_mem h with rfl | h
      · exact .inr (by simp)
      · exact .inl h
    · exact .inr (by simp [h])
theorem sortedL_mem {l : List Pr} {q : Pr} (h : q ∈ sortedL l) : q ∈ l := by
  rcases foldl_putL_mem l [] q h with h | h
  · simp at h
  · exact h
theorem Sized.sorted {l : List Pr} (h : Sized l) : Sized (sortedL l) := fun q hq => h q (sortedL_mem hq)
theorem Sized.take {l : List Pr} (h : Sized l) (k : Nat) : Sized (l.take k) := fun q hq => h q (List.mem_of_mem_take hq)
set_option maxHeartbeats 1000000 in
set_option maxRecDepth 100000 in
theorem refSorted_at {w : World} {B c : Nat} {A : Option Addr} {l : List Pr} (h : Prs w B A l) (hB : B ≤ w.heap.size) (hl : l.length ≤ 50000) (hs : Sized l) :
    Calls Tryz.prog 25 #[.slice A l.length c] w fun e w' => ∃ v, e = .returned v ∧ w'.ownsRow w.heap.size 39 2 v (sortedL l).length (prsV (sortedL l)) ∧ Below w.heap.size w w' := by
  have hH := Lib.hid h
  have hsH := Lib.hid hs
  clear h hs
  go_enter Tryz.func25, Tryz.ntmps25
  go_wp2_with fail
  go_loopw [3, 4] (fun vv iv wr => ∃ k : Nat, k ≤ l.length ∧ iv = .int .i64 k ∧ Hid (wr.ownsRow w.heap.size 39 2 vv (sortedL (l.take k)).length (prsV (sortedL (l.take k)))) ∧ Hid (Below w.heap.size w wr)) (fun _ iv _ => l.length - (intOf iv).toNat)
  case atStart => exact ⟨0, by omega, rfl, Lib.hid (World.ownsRow_nil _ _ _ _), Lib.hid (Below.refl _ _)⟩
  case round =>
    obtain ⟨k, hk, rfl, hrow, hb⟩ := hrel
    by_cases hlt : k < l.length
    · obtain ⟨b, o, hA, _, c1, c2⟩ := (hH.out.below (hb.out.mono hB)).at' hlt
      have hsn := Lib.hid (sortedL_snoc l k hlt)
      have hp := Lib.hid (hsH.out _ (List.getElem_mem hlt))
      have hlen := sortedL_len (l.take k)
      rw [List.length_take] at hlen
      have hso := Lib.hid ((hsH.out.take k).sorted)
      generalize l[k] = p at *
      generalize sortedL (l.take k) = m at *
      obtain ⟨A2, cc, hv, hA2, hc2, hp2⟩ := own_pairs hrow.out rfl
      subst hv hA
      have hcall := Lib.hid (refPut_at (w := wr) (c := cc) hp2 (Nat.le_refl _) hA2 hc2 (by omega) hso.out p hp.out.1)
      clear hA2 hp2 hlen
      go_wp2_with fail
      refine hcall.out.mono ?_
      rintro e w1 ⟨v1, rfl, hrow1, hb1⟩
      have hrow1H := Lib.hid (own_lower hrow1 hb.out.size)
      have hb1H := Lib.hid (hb.out.trans (hb1.mono hb.out.size))
      clear hrow1 hb1
      go_wp2
      go_roundw
      case rel => exact ⟨k + 1, by omega, by go_num, by rw [hsn.out]; exact hrow1H, hb1H⟩
      case measure => simp [intOf]; omega
    · obtain rfl : k = l.length := by omega
      have hfin : Hid (sortedL (l.take l.length) = sortedL l) := Lib.hid (by rw [List.take_length])
      go_wp2
      go_ret
      exact ⟨_, rfl, by rw [← hfin.out]; exact hrow.out, hb.out⟩
/-- is a text in a list longer than there may be? -/
def longL (l : List Pr) : Bool := l.any fun p => decide (1000 < p.1.size) || decide (1000 < p.2.size)
set_option maxRecDepth 100000 in
theorem refLong_at {w : World} {B c : Nat} {A : Option Addr} {l : List Pr} (h : Prs w B A l) (hl : l.length ≤ 9223372036854775807) (hs : Sized l) :
    Calls Tryz.prog 10 #[.slice A l.length c] w fun e w' => e = .returned (.bool (longL l)) ∧ w = w' := by
  have hH := Lib.hid h
  have hsH := Lib.hid hs
  obtain ⟨z, hz⟩ : ∃ z, longL l = z := ⟨_, rfl⟩
  have hzH := Lib.hid hz
  rw [hz]
  clear h hs hz
  go_enter Tryz.func10, Tryz.ntmps10
  go_wp2_with fail
  go_loopw [3] (fun iv wr => ∃ k : Nat, k ≤ l.length ∧ iv = .int .i64 k ∧ wr = w ∧ Hid (longL (l.take k) = false)) (fun iv _ => l.length - (intOf iv).toNat)
  case atStart => exact ⟨0, by omega, rfl, rfl, Lib.hid rfl⟩
  case round =>
    obtain ⟨k, hk, rfl, rfl, hno⟩ := hrel
    by_cases hlt : k < l.length
    · obtain ⟨b, o, hA, _, c1, c2⟩ := hH.out.at' hlt
      obtain ⟨hp1, hp2⟩ := hsH.out _ (List.getElem_mem hlt)
      have hsn : Hid (longL (l.take (k + 1)) = (longL (l.take k) || (decide (1000 < l[k].1.size) || decide (1000 < l[k].2.size)))) := Lib.hid (by
        unfold longL
        rw [List.take_succ_eq_append_getElem hlt, List.any_append]
        simp)
      have hall : Hid (∀ p, p = l[k] → (1000 < p.1.size ∨ 1000 < p.2.size) → z = true) := Lib.hid (fun p hp hq => by
        rw [← hzH.out]
        unfold longL
        rw [List.any_eq_true]
        exact ⟨p, by rw [hp]; exact List.getElem_mem hlt, by simpa using hq⟩)
      generalize l[k] = p at *
      subst hA
      by_cases h1 : 1000 < p.1.size
      · have hz1 := Lib.hid (hall.out p rfl (.inl h1))
        go_wp2
        go_ret
        exact ⟨by rw [hz1.out]; rfl, rfl⟩
      · by_cases h2 : 1000 < p.2.size
        · have hz1 := Lib.hid (hall.out p rfl (.inr h2))
          go_wp2
          go_ret
          exact ⟨by rw [hz1.out]; rfl, rfl⟩
        · go_wp2
          go_roundw
          case rel => exact ⟨k + 1, by omega, by go_num, trivial, Lib.hid (by rw [hsn.out, hno.out]; simp [h1, h2])⟩
          case measure => simp [intOf]; omega
    · obtain rfl : k = l.length := by omega
      have hz1 : Hid (z = false) := Lib.hid (by rw [← hzH.out, ← hno.out, List.take_length])
      go_wp2
      go_ret
      exact ⟨by rw [hz1.out]; rfl, rfl⟩
end Go.Proofs.YtdcglpagdnhkgaaGreatDoor
/- loftlaw11.grow: plain part, slices off a store's blocks. -/
set_option linter.unusedVariables false
set_option linter.unusedSimpArgs false
namespace Go.Proofs.YtdcglpagdnhkgaaGreatDoor
open Go.RowKit Go.Shelf
/-- what a tree that was made leaves of the records -/
structure GrowOut (R R' : Nat → Option (List Nat)) (t : BT) : Prop where
  at' : t.At R'
  nodup : t.hs.Nodup
  fresh : ∀ x ∈ t.hs, R x = none
  old : ∀ x, x ∉ t.hs → R' x = R x
  nz : ∀ x ∈ t.hs, x ≠ 0
theorem BT.At.congr {R R' : Nat → Option (List Nat)} : ∀ {t : BT}, t.At R → (∀ x ∈ t.hs, R' x = R x) → t.At R'
  | .nil, _, _ => trivial
  | .node h kh vh m k v l r, ⟨h1, h2, h3, h4, h5, h6, hl, hr⟩, he => by
    simp only [BT.hs, List.mem_append, List.mem_cons] at he
    exact ⟨h1, (he h (by simp)).trans h2, (he kh (by simp)).trans h3, (he vh (by simp)).trans h4, h5, h6, hl.congr (fun x hx => he x (.inl hx)), hr.congr (fun x hx => he x (.inr (.inr (.inr (.inr hx)))))⟩
theorem GrowOut.nil (R : Nat → Option (List Nat)) : GrowOut R R .nil := ⟨trivial, List.nodup_nil, fun x hx => by simp [BT.hs] at hx, fun x _ => rfl, fun x hx => by simp [BT.hs] at hx⟩
theorem GrowOut.some {R R' : Nat → Option (List Nat)} {t : BT} (g : GrowOut R R' t) {x : Nat} (hx : x ∈ t.hs) : R' x ≠ none := BT.hs_in t g.at' x hx
theorem GrowOut.keep {R R' : Nat → Option (List Nat)} {t : BT} (g : GrowOut R R' t) {x : Nat} (hx : R x ≠ none) : R' x = R x := g.old x (fun h => hx (g.fresh x h))
/-- a node over two trees that were made one behind the other -/
theorem grow_plain {R R3 R4 : Nat → Option (List Nat)} {xk xv h : Nat} {k v : ByteArray} {tl tr : BT} (hk : R xk = none) (k0 : xk ≠ 0) (hv : updR R xk (some (Tx.wordsL k.data.toList)) xv = none) (v0 : xv ≠ 0)
    (gl : GrowOut (updR (updR R xk (some (Tx.wordsL k.data.toList))) xv (some (Tx.wordsL v.data.toList))) R3 tl) (gr : GrowOut R3 R4 tr) (hh : R4 h = none) (h0 : h ≠ 0) (hks : k.size ≤ 1000) (hvs : v.size ≤ 1000) (m : Nat) :
    GrowOut R (updR R4 h (some (Nd.ws ⟨xk, xv, tl.root, tr.root, m, tl.size + 1 + tr.size⟩))) (.node h xk xv m k v tl tr) := by
  have hkv : xk ≠ xv := fun e => by rw [← e, updR_same] at hv; cases hv
  have hv2 : R xv = none := (updR_other (fun e => hkv e.symm)).symm.trans hv
  have e2k : updR (updR R xk (some (Tx.wordsL k.data.toList))) xv (some (Tx.wordsL v.data.toList)) xk = some (Tx.wordsL k.data.toList) := by rw [updR_other hkv, updR_same]
  have e2v : updR (updR R xk (some (Tx.wordsL k.data.toList))) xv (some (Tx.wordsL v.data.toList)) xv = some (Tx.wordsL v.data.toList) := updR_same _ _ _
  have e3k : R3 xk = some (Tx.wordsL k.data.toList) := by rw [gl.keep (by rw [e2k]; simp), e2k]
  have e3v : R3 xv = some (Tx.wordsL v.data.toList) := by rw [gl.keep (by rw [e2v]; simp), e2v]
  have e4k : R4 xk = some (Tx.wordsL k.data.toList) := by rw [gr.keep (by rw [e3k]; simp), e3k]
  have e4v : R4 xv = some (Tx.wordsL v.data.toList) := by rw [gr.keep (by rw [e3v]; simp), e3v]
  have hhk : xk ≠ h := fun e => by rw [e, hh] at e4k; cases e4k
  have hhv : xv ≠ h := fun e => by rw [e, hh] at e4v; cases e4v
  have hl4 : ∀ x ∈ tl.hs, R4 x = R3 x := fun x hx => gr.keep (gl.some hx)
  have hlh : ∀ x ∈ tl.hs, x ≠ h := fun x hx e => by
    have := gl.some hx
    rw [← hl4 x hx, e, hh] at this
    exact this rfl
  have hrh : ∀ x ∈ tr.hs, x ≠ h := fun x hx e => by
    have := gr.some hx
    rw [e, hh] at this
    exact this rfl
  have fl : ∀ x ∈ tl.hs, x ≠ xk ∧ x ≠ xv ∧ R x = none := fun x hx => by
    have h1 := gl.fresh x hx
    have a1 : x ≠ xv := fun e => by rw [e, e2v] at h1; cases h1
    have a2 : x ≠ xk := fun e => by rw [e, e2k] at h1; cases h1
    rw [updR_other a1, updR_other a2] at h1
    exact ⟨a2, a1, h1⟩
  have fr : ∀ x ∈ tr.hs, x ≠ xk ∧ x ≠ xv ∧ x ∉ tl.hs ∧ R x = none := fun x hx => by
    have h1 := gr.fresh x hx
    have a1 : x ≠ xv := fun e => by rw [e, e3v] at h1; cases h1
    have a2 : x ≠ xk := fun e => by rw [e, e3k] at h1; cases h1
    have a3 : x ∉ tl.hs := fun e => gl.some e h1
    rw [gl.old x a3, updR_other a1, updR_other a2] at h1
    exact ⟨a2, a1, a3, h1⟩
  have fh : h ∉ tl.hs ∧ h ∉ tr.hs := ⟨fun e => hlh h e rfl, fun e => hrh h e rfl⟩
  have hRh : R h = none := by
    have h1 := hh
    rw [gr.old h fh.2, gl.old h fh.1, updR_other (fun e => hhv e.symm), updR_other (fun e => hhk e.symm)] at h1
    exact h1
  refine ⟨⟨h0, updR_same _ _ _, ?_, ?_, hks, hvs, ?_, ?_⟩, ?_, ?_, ?_, ?_⟩
  · rw [updR_other hhk, e4k]
  · rw [updR_other hhv, e4v]
  · exact gl.at'.congr fun x hx => by rw [updR_other (hlh x hx), hl4 x hx]
  · exact gr.at'.congr fun x hx => by rw [updR_other (hrh x hx)]
  · simp only [BT.hs]
    rw [List.nodup_append]
    refine ⟨gl.nodup, ?_, ?_⟩
    · simp only [List.nodup_cons, List.mem_cons, not_or]
      exact ⟨⟨fun e => hhk e.symm, fun e => hhv e.symm, fh.2⟩, ⟨hkv, fun e => (fr xk e).1 rfl⟩, fun e => (fr xv e).2.1 rfl, gr.nodup⟩
    · intro a ha b hb
      simp only [List.mem_cons] at hb
      rcases hb with rfl | rfl | rfl | hb
      · exact hlh a ha
      · exact (fl a ha).1
      · exact (fl a ha).2.1
      · rintro rfl
        exact (fr a hb).2.2.1 ha
  · intro x hx
    simp only [BT.hs, List.mem_append, List.mem_cons] at hx
    rcases hx with hx | rfl | rfl | rfl | hx
    · exact (fl x hx).2.2
    · exact hRh
    · exact hk
    · exact hv2
    · exact (fr x hx).2.2.2
  · intro x hx
    simp only [BT.hs, List.mem_append, List.mem_cons, not_or] at hx
    obtain ⟨x1, x2, x3, x4, x5⟩ := hx
    rw [updR_other x2, gr.old x x5, gl.old x x1, updR_other x4, updR_other x3]
  · intro x hx
    simp only [BT.hs, List.mem_append, List.mem_cons] at hx
    rcases hx with hx | rfl | rfl | rfl | hx
    · exact gl.nz x hx
    · exact h0
    · exact k0
    · exact v0
    · exact gr.nz x hx
/-- a slice whose cells are these, in a block off F -/
def CellsF (w : World) (F : Nat → Prop) (A : Option Addr) (vs : List Value) : Prop :=
  vs = [] ∨ ∃ b o, A = some ⟨b, o, none⟩ ∧ b < w.heap.size ∧ ¬ F b ∧ ∀ j u, vs[j]? = some u → w.cell? ⟨b, o + j, none⟩ = some u
section
variable {w w' : World} {F F' : Nat → Prop} {A : Option Addr} {vs : List Value}
theorem CellsF.turn (h : CellsF w F A vs) (ht : Turn w F w' F') : CellsF w' F' A vs := by
  rcases h with h | ⟨b, o, h1, h2, h3, h4⟩
  · exact .inl h
  · exact .inr ⟨b, o, h1, Nat.lt_of_lt_of_le h2 ht.size, ht.not h2 h3, fun j u hu => ht.cell (h4 j u hu) h3⟩
theorem CellsF.at' (h : CellsF w F A vs) {k : Nat} {u : Value} (hk : vs[k]? = some u) : ∃ b o, A = some ⟨b, o, none⟩ ∧ w.cell? ⟨b, o + k, none⟩ = some u := by
  rcases h with rfl | ⟨b, o, h1, h2, h3, h4⟩
  · simp at hk
  · exact ⟨b, o, h1, h4 k u hk⟩
theorem CellsF.take (h : CellsF w F A vs) (k : Nat) : CellsF w F A (vs.take k) := by
  rcases h with rfl | ⟨b, o, h1, h2, h3, h4⟩
  · left; simp
  · refine .inr ⟨b, o, h1, h2, h3, fun j u hu => h4 j u ?_⟩
    rw [List.getElem?_take] at hu
    split at hu
    · exact hu
    · cases hu
theorem CellsF.pairs {l : List Pr} (h : CellsF w F A (prsV l)) {k : Nat} (hk : k < l.length) : ∃ b o, A = some ⟨b, o, none⟩ ∧ w.cell? ⟨b, o + k * 2, none⟩ = some (.string l[k].1) ∧ w.cell? ⟨b, o + k * 2 + 1, none⟩ = some (.string l[k].2) := by
  obtain ⟨h1, h2⟩ := prsV_at l k hk
  obtain ⟨b, o, e, hc⟩ := h.at' h1
  obtain ⟨b', o', e', hc'⟩ := h.at' h2
  rw [e] at e'
  cases e'
  exact ⟨b, o, e, hc, by rw [Nat.add_assoc]; exact hc'⟩
theorem CellsF.of_prs {B : Nat} {l : List Pr} (h : Prs w B A l) (hB : B ≤ w.heap.size) (hF : ∀ b, F b → B ≤ b) : CellsF w F A (prsV l) := by
  rcases h with rfl | ⟨b, o, h1, h2, h3⟩
  · exact .inl rfl
  · exact .inr ⟨b, o, h1, by omega, fun hf => by have := hF b hf; omega, h3⟩
end
/-- 'l[k:]' of pairs -/
theorem slice_fromF (A : Option Addr) (n k c : Nat) (hk : k ≤ n) (hc : n ≤ c) : ∃ A', (∀ W, (Instr.sliceAt 22 (.slice A n c) (some (.int .i64 (k : Nat))) none none).run Tryz.prog W = .ok (.slice A' (n - k) (c - k)) W) ∧ (∀ W, (Instr.slice 22 (.slice A n c) (some (.int .i64 (k : Nat))) none none).run Tryz.prog W = .ok (.slice A' (n - k) (c - k)) W) ∧
    (∀ (W : World) (F : Nat → Prop) (l : List Pr), l.length = n → CellsF W F A (prsV l) → CellsF W F A' (prsV (l.drop k))) ∧ ((A = none → c = 0) → A' = none → c - k = 0) := by
  have e2 : ∀ W, (Instr.slice 22 (.slice A n c) (some (.int .i64 (k : Nat))) none none).run Tryz.prog W = .ok (.slice (if c = k then A else A.map (·.add (k * 2))) (n - k) (c - k)) W := fun W => by
    rw [run_slice_l W 22 A n c (by kernel_rfl) .i64 (k : Nat) (by omega) (by omega)]
    rw [show Tryz.prog.elem 22 = 39 by kernel_rfl, show (sizeOf 39).run Tryz.prog W = .ok 2 W by kernel_rfl]
    simp [sliced, Result.andThen]
  refine ⟨if c = k then A else A.map (·.add (k * 2)), fun W => ?_, e2, fun W F l hl h => ?_, fun hA h => ?_⟩
  · rw [run_sliceAt_slice W 22 _ _ _ _ (by kernel_rfl)]
    exact e2 W
  · by_cases he : k = l.length
    · subst he; left; rw [List.drop_length]; rfl
    · rcases h with h | ⟨b, o, rfl, hb, hF, hcell⟩
      · have : l = [] := by
          cases l with
          | nil => rfl
          | cons p l => simp [prsV] at h
        subst this
        left; simp [prsV]
      · rw [if_neg (by omega)]
        refine .inr ⟨b, o + k * 2, ?_, hb, hF, fun j u hu => ?_⟩
        · show some ((⟨b, o, none⟩ : Addr).add (k * 2)) = _
          unfold Addr.add; split <;> simp_all
        · rw [Nat.add_assoc]
          refine hcell _ _ ?_
          rw [prsV_drop, List.getElem?_drop] at hu
          exact hu
  · by_cases he : c = k
    · omega
    · rw [if_neg he] at h
      cases A with
      | none => have := hA rfl; omega
      | some a => cases h
theorem StoreIs.more {w : World} {s : Nat} {F : Nat → Prop} {R : Nat → Option (List Nat)} {H : List Nat} {P P' q most last G G' : Nat} (h : StoreIs w s F R H P q most last G) (hP : P ≤ P') (hG : G ≤ G') : StoreIs w s F R H P' q most last G' := by
  obtain ⟨a, ha, t, v, L, mem, sl, Fh, h⟩ := h
  exact ⟨a, ha, t, v, L, mem, sl, Fh, { h with pages := Nat.le_trans h.pages hP, gens := fun x hx => Nat.le_trans (h.gens x hx) hG }⟩
theorem pgsN_le {n : Nat} (h : n ≤ 128) : pgsN n ≤ 3 := by unfold pgsN; split <;> omega
theorem words_le {b : ByteArray} (h : b.size ≤ 1000) : (Tx.wordsL b.data.toList).length ≤ 126 := by
  rw [Tx.wordsL_length, Tx.size_list]
  unfold Tx.many
  omega
end Go.Proofs.YtdcglpagdnhkgaaGreatDoor
/- loftlaw11.grow: the walk. -/
set_option linter.unusedVariables false
set_option linter.unusedSimpArgs false
namespace Go.Proofs.YtdcglpagdnhkgaaGreatDoor
open Go.RowKit Go.Shelf
def intsV (zs : List Int) : List Value := zs.map fun z => .int .i64 z
/-- what grow leaves -/
def GrowPost (w : World) (s : Nat) (F : Nat → Prop) (R : Nat → Option (List Nat)) (H : List Nat) (P q most last G : Nat) (l : List Pr) (e : Ending) (w' : World) : Prop :=
  ∃ t F' R' H', e = .returned (.int .u64 (t.root : Nat)) ∧ t.prs = l ∧ GrowOut R R' t ∧ StoreIs w' s F' R' H' (P + 9 * l.length) q most last (G + 3 * l.length) ∧ H'.length = H.length + 3 * l.length ∧ Turn w F w' F'
/-- which node is the root -/
def pickK (zs : List Int) (d n : Nat) : Nat := match zs[d]? with | some z => if 0 ≤ z then (z % n).toNat else n / 2 | none => n / 2
theorem pickK_lt (zs : List Int) (d n : Nat) (h : 0 < n) : pickK zs d n < n := by
  unfold pickK
  split
  · split
    · rename_i z _ _
      have h1 := Int.emod_nonneg z (show (n : Int) ≠ 0 by omega)
      have h2 := Int.emod_lt_of_pos z (show (0 : Int) < n by omega)
      omega
    · omega
  · omega
set_option maxHeartbeats 4000000 in
set_option maxRecDepth 100000 in
theorem grow_at (s : Nat) (A' : Option Addr) (c' : Nat) (zs : List Int) (hzl : zs.length ≤ 9223372036854775807) (hzb : ∀ z ∈ zs, -9223372036854775808 ≤ z ∧ z ≤ 9223372036854775807) (q most last : Nat) :
    ∀ (m : Nat) (w : World) (F : Nat → Prop) (R : Nat → Option (List Nat)) (H : List Nat) (P G : Nat) (A : Option Addr) (c : Nat) (l : List Pr) (d : Nat), l.length ≤ m → StoreIs w s F R H P q most last G →
      CellsF w F A (prsV l) → CellsF w F A' (intsV zs) → l.length ≤ c → (∀ p ∈ l, p.1.size ≤ 1000 ∧ p.2.size ≤ 1000) → d + l.length ≤ 1000000 →
      (P + 9 * l.length) * 64 ≤ q → H.length + 3 * l.length ≤ most → G + 3 * l.length ≤ last →
      Calls Tryz.prog 26 #[.pointer (some ⟨s, 0, none⟩), .slice A l.length c, .slice A' zs.length c', .int .i64 (d : Nat)] w (GrowPost w s F R H P q most last G l)
  | 0, w, F, R, H, P, G, A, c, l, d, hm, h, hA, hA', hc, hsz, hd, hq, hmost, hlast => by
    have hl : l = [] := List.eq_nil_of_length_eq_zero (by omega)
    subst hl
    have hfin : Hid (GrowPost w s F R H P q most last G [] (.returned (.int .u64 0)) w) := Lib.hid ⟨.nil, F, R, H, rfl, rfl, GrowOut.nil R, by simpa using h, by simp, Turn.refl _ _⟩
    clear h hA hA' hsz hq hmost hlast hzb
    go_enter Tryz.func26, Tryz.ntmps26
    go_wp2
    go_ret
    exact hfin.out
  | m + 1, w, F, R, H, P, G, A, c, l, d, hm, h, hA, hA', hc, hsz, hd, hq, hmost, hlast => by
    by_cases hl0 : l.length = 0
    · have hl : l = [] := List.eq_nil_of_length_eq_zero hl0
      subst hl
      have hfin : Hid (GrowPost w s F R H P q most last G [] (.returned (.int .u64 0)) w) := Lib.hid ⟨.nil, F, R, H, rfl, rfl, GrowOut.nil R, by simpa using h, by simp, Turn.refl _ _⟩
      clear h hA hA' hsz hq hmost hlast hzb
      go_enter Tryz.func26, Tryz.ntmps26
      go_wp2
      go_ret
      exact hfin.out
    · have hpos : 0 < l.length := by omega
      obtain ⟨k, hk⟩ : ∃ k, pickK zs d l.length = k := ⟨_, rfl⟩
      have hkl : k < l.length := hk ▸ pickK_lt zs d _ hpos
      have hne : ((l.length : Int) == 0) = false := beq_eq_false_iff_ne.2 (by omega)
      obtain ⟨A2, sl1, sl2, hdr, _⟩ := slice_fromF A l.length (k + 1) c (by omega) hc
      push_cast at sl1 sl2
      obtain ⟨p, hp⟩ : ∃ p, l[k] = p := ⟨_, rfl⟩
      obtain ⟨hp1, hp2⟩ := hsz p (hp ▸ List.getElem_mem hkl)
      have hIH := Lib.hid (grow_at s A' c' zs hzl hzb q most last m)
      have hsplit : Hid (l = l.take k ++ p :: l.drop (k + 1)) := Lib.hid (by rw [← hp, ← List.drop_eq_getElem_cons hkl, List.take_append_drop])
      have hcell := Lib.hid (fun W F' (hW : CellsF W F' A (prsV l)) => by have := hW.pairs hkl; rw [hp] at this; exact this)
      have hdrH := Lib.hid hdr
      have htl : Hid ((l.take k).length = k ∧ (l.drop (k + 1)).length = l.length - (k + 1)) := Lib.hid ⟨by rw [List.length_take]; omega, List.length_drop⟩
      have hszH := Lib.hid hsz
      have hSH := Lib.hid h
      have hAH := Lib.hid hA
      have hA'H := Lib.hid hA'
      have hPut1 := Lib.hid (bput_at h p.1 hp1)
      have hw1 := words_le hp1
      have hw2 := words_le hp2
      have hg1 := pgsN_le (n := (Tx.wordsL p.1.data.toList).length + 2) (by omega)
      have hg2 := pgsN_le (n := (Tx.wordsL p.2.data.toList).length + 2) (by omega)
      obtain ⟨b, o, hAs, q1, q2⟩ := hcell.out w F hA
      clear hdr hp hsz h hw1 hw2
      have hcases : (∃ z, zs[d]? = some z ∧ 0 ≤ z ∧ (k : Int) = z % l.length ∧ d < zs.length ∧ z ≤ 9223372036854775807) ∨ (∃ z, zs[d]? = some z ∧ z < 0 ∧ k = l.length / 2 ∧ d < zs.length ∧ -9223372036854775808 ≤ z) ∨ (¬ d < zs.length ∧ k = l.length / 2) := by
        unfold pickK at hk
        by_cases hdl : d < zs.length
        · have hz : zs[d]? = some zs[d] := List.getElem?_eq_getElem hdl
          have hzz := hzb _ (List.getElem_mem hdl)
          rw [hz] at hk
          simp only at hk
          by_cases h0 : 0 ≤ zs[d]
          · rw [if_pos h0] at hk
            have h1 := Int.emod_nonneg zs[d] (show (l.length : Int) ≠ 0 by omega)
            exact .inl ⟨_, hz, h0, by omega, hdl, hzz.2⟩
          · rw [if_neg h0] at hk
            exact .inr (.inl ⟨_, hz, by omega, hk.symm, hdl, hzz.1⟩)
        · rw [List.getElem?_eq_none (by omega)] at hk
          exact .inr (.inr ⟨hdl, hk.symm⟩)
      clear hk hA hA'
      rcases hcases with ⟨z, hz, hz0, hkz, hdl, hz1⟩ | ⟨z, hz, hz0, hkz, hdl, hz1⟩ | ⟨hdl, hkz⟩
      · obtain ⟨b', o', hA's, q3⟩ := hA'H.out.at' (k := d) (u := .int .i64 z) (by rw [intsV, List.getElem?_map, hz]; rfl)
        subst hAs hA's
        have hd1 : decide (d < zs.length) = true := by simp; omega
        have hkz2 : z % (l.length : Int) = (k : Int) := hkz.symm
        clear hkz hz
        go_enter Tryz.func26, Tryz.ntmps26
        go_wp2_with fail
        refine hPut1.out.mono ?_
        rintro e w1 (⟨x1, F1, n1, x10, x164, rfl, hS1, hT1⟩ | ⟨er, F1, rfl, her, hS1, hT1⟩)
        · have hPut2 := Lib.hid (bput_at hS1 p.2 hp2)
          have hA1 := Lib.hid (hAH.out.turn hT1)
          have hA1' := Lib.hid (hA'H.out.turn hT1)
          obtain ⟨b2, o2, hAs2, u1, u2⟩ := hcell.out w1 F1 hA1.out
          cases hAs2
          have n1H := Lib.hid n1
          have hT1H := Lib.hid hT1
          clear q1 q2 hS1 hT1 n1 hPut1
          go_wp2_with fail
          refine hPut2.out.mono ?_
          rintro e w2 (⟨x2, F2, n2, x20, x264, rfl, hS2, hT2⟩ | ⟨er, F2, rfl, her, hS2, hT2⟩)
          · have hA2 := Lib.hid (hA1.out.turn hT2)
            have hA2' := Lib.hid (hA1'.out.turn hT2)
            have n2H := Lib.hid n2
            have hT2H := Lib.hid (hT1H.out.trans hT2)
            have hG1 := hIH.out w2 F2 _ _ _ _ (some ⟨b, o, none⟩) c (l.take k) (d + 1) (by rw [htl.out.1]; omega) hS2 (by rw [prsV_take]; exact hA2.out.take _) hA2'.out (by rw [htl.out.1]; omega) (fun x hx => hszH.out x (List.mem_of_mem_take hx)) (by rw [htl.out.1]; omega) (by rw [htl.out.1]; omega) (by rw [htl.out.1]; simp only [List.length_cons]; omega) (by rw [htl.out.1]; omega)
            rw [htl.out.1] at hG1
            push_cast at hG1
            have hG1H := Lib.hid hG1
            clear u1 u2 hS2 hT2 n2 hPut2 hG1
            go_wp2_with fail
            refine hG1H.out.mono ?_
            rintro e w3 ⟨tl, F3, R3, H3, rfl, hpr3, hgo3, hS3, hH3, hT3⟩
            rw [htl.out.1] at hS3 hH3
            simp only [List.length_cons] at hH3
            have hA3 := Lib.hid (hdrH.out w3 F3 l rfl (hA2.out.turn hT3))
            have hA3' := Lib.hid (hA2'.out.turn hT3)
            have hG2 := hIH.out w3 F3 _ _ _ _ A2 (c - (k + 1)) (l.drop (k + 1)) (d + 1) (by rw [htl.out.2]; omega) hS3 hA3.out hA3'.out (by rw [htl.out.2]; omega) (fun x hx => hszH.out x (List.mem_of_mem_drop hx)) (by rw [htl.out.2]; omega) (by rw [htl.out.2]; omega) (by rw [htl.out.2]; omega) (by rw [htl.out.2]; omega)
            rw [htl.out.2] at hG2
            push_cast at hG2
            have hG2H := Lib.hid hG2
            obtain ⟨nr3, hrd3, _⟩ := hS3.rd
            have hrl := BT.root_lt hgo3.at' hrd3
            have htls : Hid (tl.size = k) := Lib.hid (by rw [← BT.prs_len, hpr3, htl.out.1])
            have hT3H := Lib.hid (hT2H.out.trans hT3)
            have hpr3H := Lib.hid hpr3
            have hgo3H := Lib.hid hgo3
            have hH3H := Lib.hid hH3
            clear hS3 hT3 hG2 hgo3 hrd3 hG1H hpr3 hH3
            go_wp2_with fail
            refine hG2H.out.mono ?_
            rintro e w4 ⟨tr, F4, R4, H4, rfl, hpr4, hgo4, hS4, hH4, hT4⟩
            rw [htl.out.2] at hS4 hH4
            obtain ⟨nr4, hrd4, _⟩ := hS4.rd
            have hrr := BT.root_lt hgo4.at' hrd4
            have htrs : Hid (tr.size = l.length - (k + 1)) := Lib.hid (by rw [← BT.prs_len, hpr4, htl.out.2])
            have hMk := nmake_at hS4 ⟨x1, x2, tl.root, tr.root, 0, l.length⟩ ⟨x164, x264, hrl, hrr, by simp, by simp only; omega⟩
            unfold Nd.v at hMk
            have hMkH := Lib.hid hMk
            have hT4H := Lib.hid (hT3H.out.trans hT4)
            have hpr4H := Lib.hid hpr4
            have hgo4H := Lib.hid hgo4
            have hH4H := Lib.hid hH4
            clear hS4 hT4 hgo4 hrd4 hG2H hpr4 hH4 hMk
            go_wp2_with fail
            refine hMkH.out.mono ?_
            have hH3 := hH3H.out
            have hH4 := hH4H.out
            rintro e w5 (⟨x5, F5, n5, x50, x564, rfl, hS5, hT5⟩ | ⟨er, F5, rfl, her, hS5, hT5⟩)
            · have hfin : Hid (GrowPost w s F R H P q most last G l (.returned (.int .u64 (x5 : Nat))) w5) := Lib.hid (by
                refine ⟨.node x5 x1 x2 0 p.1 p.2 tl tr, F5, _, _, rfl, ?_, ?_, hS5.more ?_ ?_, ?_, hT4H.out.trans hT5⟩
                · rw [BT.prs, hpr3H.out, hpr4H.out]; exact hsplit.out.symm
                · have hsz : l.length = tl.size + 1 + tr.size := by rw [htls.out, htrs.out]; omega
                  rw [hsz]
                  exact grow_plain n1H.out x10 n2H.out x20 hgo3H.out hgo4H.out n5 x50 hp1 hp2 0
                · have : pgsN ((Nd.ws ⟨x1, x2, tl.root, tr.root, 0, l.length⟩).length + 2) = 1 := by simp [Nd.ws, pgsN]
                  rw [this]
                  omega
                · omega
                · simp only [List.length_cons]; omega)
              clear hS5 hT5 n5
              go_wp2
              go_ret
              exact hfin.out
            · have : pgsN ((Nd.ws ⟨x1, x2, tl.root, tr.root, 0, l.length⟩).length + 2) = 1 := by simp [Nd.ws, pgsN]
              rw [this] at her
              exfalso; omega
          · exfalso; simp only [List.length_cons] at her; omega
        · exfalso; omega
      · obtain ⟨b', o', hA's, q3⟩ := hA'H.out.at' (k := d) (u := .int .i64 z) (by rw [intsV, List.getElem?_map, hz]; rfl)
        subst hAs hA's
        have hd1 : decide (d < zs.length) = true := by simp; omega
        have hkz2 : (l.length : Int) / 2 = (k : Int) := by omega
        clear hkz hz
        go_enter Tryz.func26, Tryz.ntmps26
        go_wp2_with fail
        refine hPut1.out.mono ?_
        rintro e w1 (⟨x1, F1, n1, x10, x164, rfl, hS1, hT1⟩ | ⟨er, F1, rfl, her, hS1, hT1⟩)
        · have hPut2 := Lib.hid (bput_at hS1 p.2 hp2)
          have hA1 := Lib.hid (hAH.out.turn hT1)
          have hA1' := Lib.hid (hA'H.out.turn hT1)
          obtain ⟨b2, o2, hAs2, u1, u2⟩ := hcell.out w1 F1 hA1.out
          cases hAs2
          have n1H := Lib.hid n1
          have hT1H := Lib.hid hT1
          clear q1 q2 hS1 hT1 n1 hPut1
          go_wp2_with fail
          refine hPut2.out.mono ?_
          rintro e w2 (⟨x2, F2, n2, x20, x264, rfl, hS2, hT2⟩ | ⟨er, F2, rfl, her, hS2, hT2⟩)
          · have hA2 := Lib.hid (hA1.out.turn hT2)
            have hA2' := Lib.hid (hA1'.out.turn hT2)
            have n2H := Lib.hid n2
            have hT2H := Lib.hid (hT1H.out.trans hT2)
            have hG1 := hIH.out w2 F2 _ _ _ _ (some ⟨b, o, none⟩) c (l.take k) (d + 1) (by rw [htl.out.1]; omega) hS2 (by rw [prsV_take]; exact hA2.out.take _) hA2'.out (by rw [htl.out.1]; omega) (fun x hx => hszH.out x (List.mem_of_mem_take hx)) (by rw [htl.out.1]; omega) (by rw [htl.out.1]; omega) (by rw [htl.out.1]; simp only [List.length_cons]; omega) (by rw [htl.out.1]; omega)
            rw [htl.out.1] at hG1
            push_cast at hG1
            have hG1H := Lib.hid hG1
            clear u1 u2 hS2 hT2 n2 hPut2 hG1
            go_wp2_with fail
            refine hG1H.out.mono ?_
            rintro e w3 ⟨tl, F3, R3, H3, rfl, hpr3, hgo3, hS3, hH3, hT3⟩
            rw [htl.out.1] at hS3 hH3
            simp only [List.length_cons] at hH3
            have hA3 := Lib.hid (hdrH.out w3 F3 l rfl (hA2.out.turn hT3))
            have hA3' := Lib.hid (hA2'.out.turn hT3)
            have hG2 := hIH.out w3 F3 _ _ _ _ A2 (c - (k + 1)) (l.drop (k + 1)) (d + 1) (by rw [htl.out.2]; omega) hS3 hA3.out hA3'.out (by rw [htl.out.2]; omega) (fun x hx => hszH.out x (List.mem_of_mem_drop hx)) (by rw [htl.out.2]; omega) (by rw [htl.out.2]; omega) (by rw [htl.out.2]; omega) (by rw [htl.out.2]; omega)
            rw [htl.out.2] at hG2
            push_cast at hG2
            have hG2H := Lib.hid hG2
            obtain ⟨nr3, hrd3, _⟩ := hS3.rd
            have hrl := BT.root_lt hgo3.at' hrd3
            have htls : Hid (tl.size = k) := Lib.hid (by rw [← BT.prs_len, hpr3, htl.out.1])
            have hT3H := Lib.hid (hT2H.out.trans hT3)
            have hpr3H := Lib.hid hpr3
            have hgo3H := Lib.hid hgo3
            have hH3H := Lib.hid hH3
            clear hS3 hT3 hG2 hgo3 hrd3 hG1H hpr3 hH3
            go_wp2_with fail
            refine hG2H.out.mono ?_
            rintro e w4 ⟨tr, F4, R4, H4, rfl, hpr4, hgo4, hS4, hH4, hT4⟩
            rw [htl.out.2] at hS4 hH4
            obtain ⟨nr4, hrd4, _⟩ := hS4.rd
            have hrr := BT.root_lt hgo4.at' hrd4
            have htrs : Hid (tr.size = l.length - (k + 1)) := Lib.hid (by rw [← BT.prs_len, hpr4, htl.out.2])
            have hMk := nmake_at hS4 ⟨x1, x2, tl.root, tr.root, 0, l.length⟩ ⟨x164, x264, hrl, hrr, by simp, by simp only; omega⟩
            unfold Nd.v at hMk
            have hMkH := Lib.hid hMk
            have hT4H := Lib.hid (hT3H.out.trans hT4)
            have hpr4H := Lib.hid hpr4
            have hgo4H := Lib.hid hgo4
            have hH4H := Lib.hid hH4
            clear hS4 hT4 hgo4 hrd4 hG2H hpr4 hH4 hMk
            go_wp2_with fail
            refine hMkH.out.mono ?_
            have hH3 := hH3H.out
            have hH4 := hH4H.out
            rintro e w5 (⟨x5, F5, n5, x50, x564, rfl, hS5, hT5⟩ | ⟨er, F5, rfl, her, hS5, hT5⟩)
            · have hfin : Hid (GrowPost w s F R H P q most last G l (.returned (.int .u64 (x5 : Nat))) w5) := Lib.hid (by
                refine ⟨.node x5 x1 x2 0 p.1 p.2 tl tr, F5, _, _, rfl, ?_, ?_, hS5.more ?_ ?_, ?_, hT4H.out.trans hT5⟩
                · rw [BT.prs, hpr3H.out, hpr4H.out]; exact hsplit.out.symm
                · have hsz : l.length = tl.size + 1 + tr.size := by rw [htls.out, htrs.out]; omega
                  rw [hsz]
                  exact grow_plain n1H.out x10 n2H.out x20 hgo3H.out hgo4H.out n5 x50 hp1 hp2 0
                · have : pgsN ((Nd.ws ⟨x1, x2, tl.root, tr.root, 0, l.length⟩).length + 2) = 1 := by simp [Nd.ws, pgsN]
                  rw [this]
                  omega
                · omega
                · simp only [List.length_cons]; omega)
              clear hS5 hT5 n5
              go_wp2
              go_ret
              exact hfin.out
            · have : pgsN ((Nd.ws ⟨x1, x2, tl.root, tr.root, 0, l.length⟩).length + 2) = 1 := by simp [Nd.ws, pgsN]
              rw [this] at her
              exfalso; omega
          · exfalso; simp only [List.length_cons] at her; omega
        · exfalso; omega
      · subst hAs
        have hd1 : decide (d < zs.length) = false := by simp; omega
        have hkz2 : (l.length : Int) / 2 = (k : Int) := by omega
        clear hkz
        go_enter Tryz.func26, Tryz.ntmps26
        go_wp2_with fail
        refine hPut1.out.mono ?_
        rintro e w1 (⟨x1, F1, n1, x10, x164, rfl, hS1, hT1⟩ | ⟨er, F1, rfl, her, hS1, hT1⟩)
        · have hPut2 := Lib.hid (bput_at hS1 p.2 hp2)
          have hA1 := Lib.hid (hAH.out.turn hT1)
          have hA1' := Lib.hid (hA'H.out.turn hT1)
          obtain ⟨b2, o2, hAs2, u1, u2⟩ := hcell.out w1 F1 hA1.out
          cases hAs2
          have n1H := Lib.hid n1
          have hT1H := Lib.hid hT1
          clear q1 q2 hS1 hT1 n1 hPut1
          go_wp2_with fail
          refine hPut2.out.mono ?_
          rintro e w2 (⟨x2, F2, n2, x20, x264, rfl, hS2, hT2⟩ | ⟨er, F2, rfl, her, hS2, hT2⟩)
          · have hA2 := Lib.hid (hA1.out.turn hT2)
            have hA2' := Lib.hid (hA1'.out.turn hT2)
            have n2H := Lib.hid n2
            have hT2H := Lib.hid (hT1H.out.trans hT2)
            have hG1 := hIH.out w2 F2 _ _ _ _ (some ⟨b, o, none⟩) c (l.take k) (d + 1) (by rw [htl.out.1]; omega) hS2 (by rw [prsV_take]; exact hA2.out.take _) hA2'.out (by rw [htl.out.1]; omega) (fun x hx => hszH.out x (List.mem_of_mem_take hx)) (by rw [htl.out.1]; omega) (by rw [htl.out.1]; omega) (by rw [htl.out.1]; simp only [List.length_cons]; omega) (by rw [htl.out.1]; omega)
            rw [htl.out.1] at hG1
            push_cast at hG1
            have hG1H := Lib.hid hG1
            clear u1 u2 hS2 hT2 n2 hPut2 hG1
            go_wp2_with fail
            refine hG1H.out.mono ?_
            rintro e w3 ⟨tl, F3, R3, H3, rfl, hpr3, hgo3, hS3, hH3, hT3⟩
            rw [htl.out.1] at hS3 hH3
            simp only [List.length_cons] at hH3
            have hA3 := Lib.hid (hdrH.out w3 F3 l rfl (hA2.out.turn hT3))
            have hA3' := Lib.hid (hA2'.out.turn hT3)
            have hG2 := hIH.out w3 F3 _ _ _ _ A2 (c - (k + 1)) (l.drop (k + 1)) (d + 1) (by rw [htl.out.2]; omega) hS3 hA3.out hA3'.out (by rw [htl.out.2]; omega) (fun x hx => hszH.out x (List.mem_of_mem_drop hx)) (by rw [htl.out.2]; omega) (by rw [htl.out.2]; omega) (by rw [htl.out.2]; omega) (by rw [htl.out.2]; omega)
            rw [htl.out.2] at hG2
            push_cast at hG2
            have hG2H := Lib.hid hG2
            obtain ⟨nr3, hrd3, _⟩ := hS3.rd
            have hrl := BT.root_lt hgo3.at' hrd3
            have htls : Hid (tl.size = k) := Lib.hid (by rw [← BT.prs_len, hpr3, htl.out.1])
            have hT3H := Lib.hid (hT2H.out.trans hT3)
            have hpr3H := Lib.hid hpr3
            have hgo3H := Lib.hid hgo3
            have hH3H := Lib.hid hH3
            clear hS3 hT3 hG2 hgo3 hrd3 hG1H hpr3 hH3
            go_wp2_with fail
            refine hG2H.out.mono ?_
            rintro e w4 ⟨tr, F4, R4, H4, rfl, hpr4, hgo4, hS4, hH4, hT4⟩
            rw [htl.out.2] at hS4 hH4
            obtain ⟨nr4, hrd4, _⟩ := hS4.rd
            have hrr := BT.root_lt hgo4.at' hrd4
            have htrs : Hid (tr.size = l.length - (k + 1)) := Lib.hid (by rw [← BT.prs_len, hpr4, htl.out.2])
            have hMk := nmake_at hS4 ⟨x1, x2, tl.root, tr.root, 0, l.length⟩ ⟨x164, x264, hrl, hrr, by simp, by simp only; omega⟩
            unfold Nd.v at hMk
            have hMkH := Lib.hid hMk
            have hT4H := Lib.hid (hT3H.out.trans hT4)
            have hpr4H := Lib.hid hpr4
            have hgo4H := Lib.hid hgo4
            have hH4H := Lib.hid hH4
            clear hS4 hT4 hgo4 hrd4 hG2H hpr4 hH4 hMk
            go_wp2_with fail
            refine hMkH.out.mono ?_
            have hH3 := hH3H.out
            have hH4 := hH4H.out
            rintro e w5 (⟨x5, F5, n5, x50, x564, rfl, hS5, hT5⟩ | ⟨er, F5, rfl, her, hS5, hT5⟩)
            · have hfin : Hid (GrowPost w s F R H P q most last G l (.returned (.int .u64 (x5 : Nat))) w5) := Lib.hid (by
                refine ⟨.node x5 x1 x2 0 p.1 p.2 tl tr, F5, _, _, rfl, ?_, ?_, hS5.more ?_ ?_, ?_, hT4H.out.trans hT5⟩
                · rw [BT.prs, hpr3H.out, hpr4H.out]; exact hsplit.out.symm
                · have hsz : l.length = tl.size + 1 + tr.size := by rw [htls.out, htrs.out]; omega
                  rw [hsz]
                  exact grow_plain n1H.out x10 n2H.out x20 hgo3H.out hgo4H.out n5 x50 hp1 hp2 0
                · have : pgsN ((Nd.ws ⟨x1, x2, tl.root, tr.root, 0, l.length⟩).length + 2) = 1 := by simp [Nd.ws, pgsN]
                  rw [this]
                  omega
                · omega
                · simp only [List.length_cons]; omega)
              clear hS5 hT5 n5
              go_wp2
              go_ret
              exact hfin.out
            · have : pgsN ((Nd.ws ⟨x1, x2, tl.root, tr.root, 0, l.length⟩).length + 2) = 1 := by simp [Nd.ws, pgsN]
              rw [this] at her
              exfalso; omega
          · exfalso; simp only [List.length_cons] at her; omega
        · exfalso; omega
end Go.Proofs.YtdcglpagdnhkgaaGreatDoor
/- loftlaw11.made: the list is sorted, a tree of it is made in a new store. -/
set_option linter.unusedVariables false
set_option linter.unusedSimpArgs false
namespace Go.Proofs.YtdcglpagdnhkgaaGreatDoor
open Go.RowKit Go.Shelf
theorem rank_split {k : ByteArray} : ∀ {l : List Pr}, Rising l → (∀ q ∈ l.take (rankL l k), Tx.cmp q.1 k < 0) ∧ (∀ q ∈ l.drop (rankL l k), ¬ Tx.cmp q.1 k < 0)
  | [], _ => ⟨fun q hq => by simp at hq, fun q hq => by simp at hq⟩
  | p :: l, h => by
    have h' := List.pairwise_cons.1 h
    rw [rankL_cons]
    by_cases hp : Tx.cmp p.1 k < 0
    · rw [if_pos hp, List.take_succ_cons, List.drop_succ_cons]
      obtain ⟨h1, h2⟩ := rank_split (k := k) h'.2
      refine ⟨fun q hq => ?_, h2⟩
      rcases List.mem_cons.1 hq with rfl | hq
      · exact hp
      · exact h1 q hq
    · have hall : ∀ q ∈ l, ¬ Tx.cmp q.1 k < 0 := fun q hq e => hp (cmp_lt_trans (h'.1 q hq) e)
      rw [if_neg hp, rankL_none hall]
      refine ⟨fun q hq => by simp at hq, fun q hq => ?_⟩
      rcases List.mem_cons.1 hq with rfl | hq
      · exact hp
      · exact hall q hq
theorem putL_rising {l : List Pr} (h : Rising l) (p : Pr) : Rising (putL l p) := by
  obtain ⟨h1, h2⟩ := rank_split (k := p.1) h
  have hle := rankL_le l p.1
  unfold putL
  generalize rankL l p.1 = n at *
  have hgt : ∀ q ∈ l.drop (if (l[n]?).map (·.1) = some p.1 then n + 1 else n), Tx.cmp p.1 q.1 < 0 := by
    intro q hq
    have hsw := cmp_swap p.1 q.1
    have hdr : Rising (l.drop n) := List.Pairwise.sublist (List.drop_sublist n l) h
    by_cases hlt : n < l.length
    · have hd := List.drop_eq_getElem_cons hlt
      rw [List.getElem?_eq_getElem hlt] at hq
      simp only [Option.map_some, Option.some.injEq] at hq
      rw [hd] at hdr h2
      have hdr' := List.pairwise_cons.1 hdr
      by_cases he : l[n].1 = p.1
      · rw [if_pos he] at hq
        have := hdr'.1 q hq
        rw [he] at this
        exact this
      · rw [if_neg he, hd] at hq
        have h3 := h2 q hq
        have hn3 := h2 l[n] List.mem_cons_self
        rcases List.mem_cons.1 hq with rfl | hq
        · have : Tx.cmp l[n].1 p.1 ≠ 0 := fun e => he (cmp_zero.1 e)
          omega
        · have h4 := hdr'.1 q hq
          have : Tx.cmp l[n].1 p.1 ≠ 0 := fun e => he (cmp_zero.1 e)
          have h5 := cmp_swap p.1 l[n].1
          exact cmp_lt_trans (b := l[n].1) (by omega) h4
    · rw [List.getElem?_eq_none (by omega)] at hq
      simp only [Option.map_none, reduceCtorEq, if_false] at hq
      rw [List.drop_eq_nil_of_le (by omega)] at hq
      simp at hq
  unfold Rising
  rw [List.pairwise_append, List.pairwise_cons]
  refine ⟨List.Pairwise.sublist (List.take_sublist n l) h, ⟨hgt, List.Pairwise.sublist (List.drop_sublist _ l) h⟩, fun a ha b hb => ?_⟩
  have h3 := h1 a ha
  rcases List.mem_cons.1 hb with rfl | hb
  · exact h3
  · exact cmp_lt_trans h3 (hgt b hb)
theorem sortedL_rising (l : List Pr) : Rising (sortedL l) := by
  unfold sortedL
  suffices h : ∀ (l m : List Pr), Rising m → Rising (l.foldl putL m) from h l [] List.Pairwise.nil
  intro l
  induction l with
  | nil => exact fun m h => h
  | cons p l ih => exact fun m h => ih (putL m p) (putL_rising h p)
theorem BT.hs_short {R : Nat → Option (List Nat)} : ∀ (t : BT), t.At R → ∀ x ∈ t.hs, ∀ ws, R x = some ws → ws.length ≤ 200
  | .nil, _, x, hx, ws, hw => by simp [BT.hs] at hx
  | .node h kh vh m k v l r, ht, x, hx, ws, hw => by
    obtain ⟨h1, h2, h3, h4, h5, h6, hl, hr⟩ := ht
    simp only [BT.hs, List.mem_append, List.mem_cons] at hx
    rcases hx with hx | rfl | rfl | rfl | hx
    · exact BT.hs_short l hl x hx ws hw
    · rw [h2] at hw; cases hw; exact (by simp [Nd.ws] : (Nd.ws ⟨kh, vh, l.root, r.root, m, l.size + 1 + r.size⟩).length ≤ 200)
    · rw [h3] at hw; cases hw; have := words_le h5; omega
    · rw [h4] at hw; cases hw; have := words_le h6; omega
    · exact BT.hs_short r hr x hx ws hw
theorem GrowOut.short {R R' : Nat → Option (List Nat)} {t : BT} (g : GrowOut R R' t) (h : Short R) : Short R' := fun x ws hx => by
  by_cases hm : x ∈ t.hs
  · exact BT.hs_short t g.at' x hm ws hx
  · rw [g.old x hm] at hx; exact h x ws hx
theorem GrowOut.zero {R R' : Nat → Option (List Nat)} {t : BT} (g : GrowOut R R' t) (h : R 0 = none) : R' 0 = none := by
  rw [g.old 0 (fun e => g.nz 0 e rfl), h]
/-- what made leaves -/
structure MadeOut (w w' : World) (l : List Pr) (s : Nat) (t : BT) (F : Nat → Prop) (R : Nat → Option (List Nat)) (H : List Nat) (A : Option Addr) (c : Nat) : Prop where
  prs : t.prs = l
  out : GrowOut (fun _ => none) R t
  st : StoreIs w' s F R H (9 * l.length) 262144 1000 4294967295 (3 * l.length)
  len : H.length = 3 * l.length
  row : CellsF w' F A (prsV l)
  cap : l.length ≤ c
  nil : A = none → c = 0
  Fl : ∀ b, F b → w.heap.size ≤ b
  sl : w.heap.size ≤ s
  bel : Below w.heap.size w w'
def MadePost (w : World) (l : List Pr) (e : Ending) (w' : World) : Prop :=
  ∃ s t F R H A c, e = .returned (.tuple #[.pointer (some ⟨s, 0, none⟩), .int .u64 (t.root : Nat), .slice A l.length c, .bool true]) ∧ MadeOut w w' l s t F R H A c
theorem Ints_off {w w' : World} {A : Option Addr} {vs : List Value} {F : Nat → Prop} {B : Nat} (h : CellsF w (fun b => B ≤ b) A vs) (hb : Below B w w') (hF : ∀ b, F b → B ≤ b) (hs : w.heap.size ≤ w'.heap.size) : CellsF w' F A vs := by
  rcases h with h | ⟨b, o, h1, h2, h3, h4⟩
  · exact .inl h
  · have h5 : b < B := Nat.lt_of_not_le h3
    exact .inr ⟨b, o, h1, by omega, fun hf => by have := hF b hf; omega, fun j u hu => (hb.cell (p := ⟨b, o + j, none⟩) h5).trans (h4 j u hu)⟩
set_option maxHeartbeats 2000000 in
set_option maxRecDepth 100000 in
theorem made_at {w : World} (hT : Tab w) {c : Nat} {A : Option Addr} {l : List Pr} (h : CellsF w (fun b => w.heap.size ≤ b) A (prsV l)) (hl : l.length ≤ 100) (hs : ∀ p ∈ l, p.1.size ≤ 1000 ∧ p.2.size ≤ 1000)
    {c' : Nat} {A' : Option Addr} {zs : List Int} (hzl : zs.length ≤ 9223372036854775807) (hzb : ∀ z ∈ zs, -9223372036854775808 ≤ z ∧ z ≤ 9223372036854775807) (h' : CellsF w (fun b => w.heap.size ≤ b) A' (intsV zs)) :
    Calls Tryz.prog 12 #[.slice A l.length c, .slice A' zs.length c'] w (MadePost w (sortedL l)) := by
  have hP : Prs w w.heap.size A l := by
    rcases h with h | ⟨b, o, h1, h2, h3, h4⟩
    · left
      cases l with
      | nil => rfl
      | cons p l => simp [prsV] at h
    · exact .inr ⟨b, o, h1, h2, h4⟩
  have hPH := Lib.hid hP
  have hIH := Lib.hid h'
  have hsH := Lib.hid hs
  have hszd : Hid (Sized l) := Lib.hid (fun p hp => by have := hs p hp; omega)
  have hsl := sortedL_len l
  have hN := Lib.hid (snew_at hT 262144 1000 4294967295 (by omega) (by omega) (by omega) (by omega) (by omega))
  clear h hP h' hs
  go_enter Tryz.func12, Tryz.ntmps12
  go_wp2_with fail
  refine hN.out.mono ?_
  rintro e w1 ⟨s, F, rfl, hS, hs1, hF1, hb1⟩
  have hSo := Lib.hid (refSorted_at (c := c) (hPH.out.below hb1) hb1.size (by omega) hszd.out)
  have hb1H := Lib.hid hb1
  have hSH := Lib.hid hS
  have hF1H := Lib.hid hF1
  clear hb1 hS hF1
  go_wp2_with fail
  refine hSo.out.mono ?_
  rintro e w2 ⟨v, rfl, hrow, hb2⟩
  obtain ⟨A2, c2, rfl, hA2, hc2, hP2⟩ := own_pairs hrow rfl
  have hcf : CellsF w2 F A2 (prsV (sortedL l)) := by
    rcases hP2 with h | ⟨b, o, h1, h2, h3⟩
    · rw [h]; exact .inl rfl
    · refine .inr ⟨b, o, h1, h2, fun hf => ?_, h3⟩
      have h4 := hSH.out.lt hf
      have h5 := (own2_lt hrow (k := b) (by rw [h1]; rfl)).1
      omega
  have hb2H := Lib.hid (hb1H.out.trans (hb2.mono hb1H.out.size))
  have hin := Ints_off (F := F) hIH.out hb2H.out hF1H.out hb2H.out.size
  have hG := grow_at s A' c' zs hzl hzb 262144 1000 4294967295 (sortedL l).length w2 F _ _ _ _ A2 c2 (sortedL l) 0 (Nat.le_refl _) (hSH.out.below hb2) hcf hin hc2 (fun p hp => hsH.out p (sortedL_mem hp)) (by omega) (by omega) (by simp only [List.length_nil]; omega) (by omega)
  have hGH := Lib.hid hG
  have hcfH := Lib.hid hcf
  have hA2H := Lib.hid hA2
  clear hrow hb2 hP2 hG hSo hA2 hcf hin
  go_wp2_with fail
  refine hGH.out.mono ?_
  rintro e w3 ⟨t, F3, R3, H3, rfl, hpr, hgo, hS3, hH3, hT3⟩
  have hfin : Hid (MadePost w (sortedL l) (.returned (.tuple #[.pointer (some ⟨s, 0, none⟩), .int .u64 (t.root : Nat), .slice A2 (sortedL l).length c2, .bool true])) w3) := Lib.hid
    ⟨s, t, F3, R3, H3, A2, c2, rfl, hpr, hgo, by simpa using hS3, by simpa using hH3, hcfH.out.turn hT3, hc2, hA2H.out, fun b hb => by
      rcases hT3.grow b hb with h1 | h1
      · exact hF1H.out b h1
      · exact Nat.le_trans hb2H.out.size h1, hs1, hb2H.out.trans (hT3.to_below hb2H.out.size hF1H.out)⟩
  clear hpr hgo hS3 hH3 hT3 hGH
  go_wp2
  exact bodyPost_ret (v := .tuple #[.pointer (some ⟨s, 0, none⟩), .int .u64 (t.root : Nat), .slice A2 (sortedL l).length c2, .bool true]) (by simp [results, Tryz.f12, go_sem]) rfl hfin.out
end Go.Proofs.YtdcglpagdnhkgaaGreatDoor

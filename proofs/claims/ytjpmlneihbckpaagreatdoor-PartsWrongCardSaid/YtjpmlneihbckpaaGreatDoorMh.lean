/-
  The seat's own texts, part h: Free, Prs, Prs2, Prs3, Grow, MadeP, ReadT, Law, Laid, Open, OpenNd, Float.
-/
import Derived.Test.YtjpmlneihbckpaaGreatDoorMg
import Derived.Laws.AppendOwnNone
import Derived.Maps.AppendAt
import Derived.Deep.QuietTactic
import Derived.BigQuiet
import Derived.Deep.DeepMust
import Derived.Test.YtjpmlneihbckpaaGreatDoorRows
import Derived.ProofKit
import Derived.LaidMore
import Derived.OpenShut
import Derived.ShutString
import Derived.ChangeOld
import Derived.Stop.Joined
import Derived.Deep.Slices
import Derived.Deep.Fields
import Derived.ChangeSame
import Derived.Deep.SlicePairs
import Derived.ChangeSlices
import Derived.OwnWalkIn
/- walk.Free, of a right tree. -/
set_option linter.unusedVariables false
set_option linter.unusedSimpArgs false
namespace Go.Proofs.YtjpmlneihbckpaaGreatDoor
open Go.RowKit Go.Shelf
/-- records of some handles less -/
def dropR (R : Nat → Option (List Nat)) (l : List Nat) : Nat → Option (List Nat) := fun y => if y ∈ l then none else R y
theorem dropR_nil (R : Nat → Option (List Nat)) : dropR R [] = R := by funext y; simp [dropR]
theorem dropR_in {R : Nat → Option (List Nat)} {l : List Nat} {y : Nat} (h : y ∈ l) : dropR R l y = none := if_pos h
theorem dropR_out {R : Nat → Option (List Nat)} {l : List Nat} {y : Nat} (h : y ∉ l) : dropR R l y = R y := if_neg h
theorem dropR_three (R : Nat → Option (List Nat)) (l : List Nat) (a b c : Nat) : updR (updR (updR (dropR R l) b none) c none) a none = dropR R (l ++ [a, b, c]) := by
  funext y
  unfold updR dropR
  simp only [List.mem_append, List.mem_cons, List.not_mem_nil, or_false]
  by_cases e1 : y = a
  · simp [e1]
  · by_cases e2 : y = b
    · simp [e2]
    · by_cases e3 : y = c
      · simp [e3]
      · simp [e1, e2, e3]
theorem Short.drop {R : Nat → Option (List Nat)} (h : Short R) (l : List Nat) : Short (dropR R l) := fun x ws hx => by
  unfold dropR at hx
  split at hx
  · cases hx
  · exact h x ws hx
theorem Short.upd {R : Nat → Option (List Nat)} (h : Short R) (x : Nat) (o : Option (List Nat)) (ho : ∀ ws, o = some ws → ws.length ≤ 200) : Short (updR R x o) := fun y ws hy => by
  unfold updR at hy
  split at hy
  · exact ho ws hy
  · exact h y ws hy
theorem sum_sub {f : Nat → Nat} : ∀ (l H : List Nat), l.Nodup → (∀ x ∈ l, x ∈ H) → (l.map f).sum ≤ (H.map f).sum
  | [], H, _, _ => by simp
  | x :: l, H, hn, hs => by
    rw [List.nodup_cons] at hn
    have hx : x ∈ H := hs x (by simp)
    have h1 := sum_sub (f := f) l (H.erase x) hn.2 (fun y hy => (List.mem_erase_of_ne (fun e => by subst e; exact hn.1 hy)).2 (hs y (by simp [hy])))
    have h2 := ((List.perm_cons_erase hx).map f).sum_nat
    simp only [List.map_cons, List.sum_cons] at h2 ⊢
    omega
section
variable {w w' : World} {s N : Nat} {F : Nat → Prop} {R : Nat → Option (List Nat)} {H : List Nat} {P q most last G n : Nat}
theorem StoreIs.dom (h : StoreIs w s F R H P q most last G) (x : Nat) : x ∈ H ↔ R x ≠ none := by
  obtain ⟨a, ha, t, v, L, mem, sl, Fh, h⟩ := h
  constructor
  · intro hx
    obtain ⟨k, nm⟩ := (h.inH x).1 hx
    obtain ⟨ws, h1, _⟩ := h.link x k nm
    rw [h1]; simp
  · intro hx
    by_cases hm : x ∈ H
    · exact hm
    · exact absurd (h.none' x hm) hx
theorem StoreIs.nodup (h : StoreIs w s F R H P q most last G) : H.Nodup := by
  obtain ⟨a, ha, t, v, L, mem, sl, Fh, h⟩ := h
  exact h.nodup
theorem BT.hs_in : ∀ (t : BT), t.At R → ∀ x ∈ t.hs, R x ≠ none
  | .nil, _, x, hx => by simp [BT.hs] at hx
  | .node h kh vh m k v l r, ht, x, hx => by
    obtain ⟨h1, h2, h3, h4, h5, h6, hl, hr⟩ := ht
    simp only [BT.hs, List.mem_append, List.mem_cons] at hx
    rcases hx with hx | rfl | rfl | rfl | hx
    · exact BT.hs_in l hl x hx
    · rw [h2]; simp
    · rw [h3]; simp
    · rw [h4]; simp
    · exact BT.hs_in r hr x hx
theorem BT.nodes_six : ∀ (t : BT), t.At R → ∀ x ∈ t.nodes, ∃ nd : Nd, R x = some nd.ws
  | .nil, _, x, hx => by simp [BT.nodes] at hx
  | .node h kh vh m k v l r, ht, x, hx => by
    obtain ⟨h1, h2, h3, h4, h5, h6, hl, hr⟩ := ht
    simp only [BT.nodes, List.mem_append, List.mem_cons] at hx
    rcases hx with hx | rfl | hx
    · exact BT.nodes_six l hl x hx
    · exact ⟨_, h2⟩
    · exact BT.nodes_six r hr x hx
theorem BT.nodes_sub : ∀ (t : BT), t.nodes.Sublist t.hs
  | .nil => List.Sublist.refl _
  | .node h kh vh m k v l r => by
    simp only [BT.nodes, BT.hs]
    exact List.Sublist.append (BT.nodes_sub l) ((((BT.nodes_sub r).cons vh).cons kh).cons_cons h)
/-- a tree in a store has no more nodes than the walks go through -/
theorem BT.size_words {t : BT} (ht : t.At R) (hn : t.hs.Nodup) (hd : ∀ x, x ∈ H ↔ R x ≠ none) (hw : WordsR R H P n) : 8 * t.size ≤ n := by
  obtain ⟨p, rfl, _, _, hsum⟩ := hw
  have h1 := sum_sub (f := fun x => ((R x).getD []).length + 2) t.nodes H ((BT.nodes_sub t).nodup hn) (fun x hx => (hd x).2 (BT.hs_in t ht x (BT.nodes_hs t x hx)))
  have h2 : (t.nodes.map fun x => ((R x).getD []).length + 2) = List.replicate t.size 8 := by
    rw [List.eq_replicate_iff]
    refine ⟨by simp [BT.nodes_len], fun b hb => ?_⟩
    obtain ⟨x, hx, rfl⟩ := List.mem_map.1 hb
    obtain ⟨nd, hnd⟩ := BT.nodes_six t ht x hx
    rw [hnd]; rfl
  rw [h2, List.sum_replicate_nat] at h1
  omega
theorem BT.root_lt {t : BT} (ht : t.At R) (h : Rd N w s R n) : t.root < 18446744073709551616 := by
  cases t with
  | nil => exact (by decide : (0 : Nat) < 18446744073709551616)
  | node x kh vh m k v l r => exact (h.u64 ht.2.1).1
/-- what stands between two rounds -/
def FreeAt (w2 : World) (s : Nat) (F : Nat → Prop) (R : Nat → Option (List Nat)) (P q most last G : Nat) (l : List Nat) (wr : World) : Prop :=
  ∃ F' H', StoreIs wr s F' (dropR R l) H' P q most last G ∧ Turn w2 F wr F'
end
end Go.Proofs.YtjpmlneihbckpaaGreatDoor
/- Slices of pairs; loftref11: Rank, Find. -/
set_option linter.unusedVariables false
set_option linter.unusedSimpArgs false
namespace Go.Proofs.YtjpmlneihbckpaaGreatDoor
open Go.RowKit Go.Shelf
abbrev Pr := ByteArray × ByteArray
def prsV (l : List Pr) : List Value := l.flatMap fun p => [.string p.1, .string p.2]
theorem prsV_len (l : List Pr) : (prsV l).length = l.length * 2 := by
  induction l with
  | nil => rfl
  | cons p l ih => simp only [prsV, List.flatMap_cons, List.length_append, List.length_cons, List.length_nil] at ih ⊢; omega
theorem prsV_append (l m : List Pr) : prsV (l ++ m) = prsV l ++ prsV m := by simp [prsV]
theorem prsV_at : ∀ (l : List Pr) (k : Nat) (h : k < l.length), (prsV l)[k * 2]? = some (.string l[k].1) ∧ (prsV l)[k * 2 + 1]? = some (.string l[k].2)
  | p :: l, 0, _ => ⟨rfl, rfl⟩
  | p :: l, k + 1, h => by
    have := prsV_at l k (by simpa using h)
    rw [show (k + 1) * 2 = k * 2 + 2 by omega]
    exact this
theorem prsV_drop : ∀ (l : List Pr) (k : Nat), prsV (l.drop k) = (prsV l).drop (k * 2)
  | [], k => by simp [prsV]
  | p :: l, 0 => by simp
  | p :: l, k + 1 => by
    rw [List.drop_succ_cons, prsV_drop l k, show (k + 1) * 2 = k * 2 + 2 by omega]
    rfl
theorem prsV_take : ∀ (l : List Pr) (k : Nat), prsV (l.take k) = (prsV l).take (k * 2)
  | [], k => by simp [prsV]
  | p :: l, 0 => by simp [prsV]
  | p :: l, k + 1 => by
    rw [List.take_succ_cons, show (k + 1) * 2 = k * 2 + 2 by omega]
    show [Value.string p.1, Value.string p.2] ++ prsV (l.take k) = _
    rw [prsV_take l k]
    rfl
theorem prsV_one (l : List Pr) : ∀ u ∈ prsV l, u.oneCell' = true := by
  intro u hu
  obtain ⟨p, _, hp⟩ := List.mem_flatMap.1 hu
  rcases List.mem_cons.1 hp with rfl | hp
  · rfl
  · rcases List.mem_cons.1 hp with rfl | hp
    · rfl
    · simp at hp
/-- a slice whose elements are pairs; it lies below block B -/
def Prs (w : World) (B : Nat) (A : Option Addr) (l : List Pr) : Prop :=
  l = [] ∨ ∃ b o, A = some ⟨b, o, none⟩ ∧ b < B ∧ ∀ j u, (prsV l)[j]? = some u → w.cell? ⟨b, o + j, none⟩ = some u
section
variable {w w' : World} {B B' : Nat} {A : Option Addr} {l : List Pr}
theorem Prs.nil (w : World) (B : Nat) (A : Option Addr) : Prs w B A [] := .inl rfl
theorem Prs.keep (h : Prs w B A l) (hk : ∀ b, b < B → w'.heap[b]? = w.heap[b]?) : Prs w' B A l := by
  rcases h with h | ⟨b, o, rfl, hb, hc⟩
  · exact .inl h
  · exact .inr ⟨b, o, rfl, hb, fun j u hu => (World.cell?_of_block (a := ⟨b, o + j, none⟩) (hk b hb)).trans (hc j u hu)⟩
theorem Prs.below (h : Prs w B A l) (hb : Below B w w') : Prs w' B A l := h.keep fun b hlt => hb.block b hlt
theorem Prs.more (h : Prs w B A l) (hB : B ≤ B') : Prs w B' A l := by
  rcases h with h | ⟨b, o, rfl, hb, hc⟩
  · exact .inl h
  · exact .inr ⟨b, o, rfl, by omega, hc⟩
theorem Prs.at' (h : Prs w B A l) {k : Nat} (hk : k < l.length) : ∃ b o, A = some ⟨b, o, none⟩ ∧ b < B ∧ w.cell? ⟨b, o + k * 2, none⟩ = some (.string l[k].1) ∧ w.cell? ⟨b, o + k * 2 + 1, none⟩ = some (.string l[k].2) := by
  rcases h with rfl | ⟨b, o, rfl, hb, hc⟩
  · simp at hk
  · obtain ⟨h1, h2⟩ := prsV_at l k hk
    exact ⟨b, o, rfl, hb, hc _ _ h1, by rw [Nat.add_assoc]; exact hc _ _ h2⟩
theorem Prs.take (h : Prs w B A l) (k : Nat) : Prs w B A (l.take k) := by
  rcases h with rfl | ⟨b, o, rfl, hb, hc⟩
  · left; simp
  · refine .inr ⟨b, o, rfl, hb, fun j u hu => hc j u ?_⟩
    rw [prsV_take, List.getElem?_take] at hu
    split at hu
    · exact hu
    · cases hu
theorem Prs.drop (h : Prs w B A l) {k c : Nat} (hk : k ≤ l.length) (hc : l.length ≤ c) : Prs w B (if c = k then A else A.map (·.add (k * 2))) (l.drop k) := by
  by_cases he : k = l.length
  · subst he; left; simp
  · rcases h with rfl | ⟨b, o, rfl, hb, hcell⟩
    · left; simp
    · rw [if_neg (by omega)]
      refine .inr ⟨b, o + k * 2, ?_, hb, fun j u hu => ?_⟩
      · show some ((⟨b, o, none⟩ : Addr).add (k * 2)) = _
        unfold Addr.add; split <;> simp_all
      · rw [Nat.add_assoc]
        refine hcell _ _ ?_
        rw [prsV_drop, List.getElem?_drop] at hu
        exact hu
theorem Prs.of_own {base n c : Nat} (h : w.ownsRow base 46 2 (.slice A n c) n (prsV l)) (hn : n = l.length) : Prs w w.heap.size A l := by
  by_cases hl : l = []
  · exact .inl hl
  · right
    have hp : 0 < l.length := List.length_pos_iff.2 hl
    rcases h.2 with ⟨_, h0⟩ | ⟨g, cap, cur, hv, hb, hg, _⟩
    · omega
    · cases hv
      refine ⟨g, 0, rfl, (Array.getElem?_eq_some_iff.1 hg).1, fun j u hu => ?_⟩
      have := h.cells (g := g) rfl j u hu
      rw [show (⟨g, 0, none⟩ : Addr).add j = ⟨g, j, none⟩ by unfold Addr.add; split <;> simp_all] at this
      rw [Nat.zero_add]
      exact this
theorem Tryz.under_pairs : Tryz.prog.underlying 22 = some (.slice 46) := by kernel_rfl
theorem Tryz.info_pair : (Tryz.prog.info? 46).map (fun i => (i.zero, i.size, i.bytes)) = some (some (.agg #[.string ⟨#[]⟩, .string ⟨#[]⟩]), 2, 32) := by kernel_rfl
/-- 'append(out, ys...)', out the call's own -/
theorem app_prs {ops : Array Oper} {rest : List Oper} {o : Oper} {a : Act} {Q : Exit → Act → World → Prop} (hgd : o.guard = none) (s x : Operand)
    (ho : o.op = .call { callee := .builtin .append, args := #[s, x], argTypes := #[22, 22] }) (w : World) (base : Nat) (v : Value) (xs : List Pr) (hs : a.eval s = v)
    (hown : w.ownsRow base 46 2 v xs.length (prsV xs)) (B : Nat) (A : Option Addr) (m c : Nat) (ys : List Pr) (hx : a.eval x = .slice A m c) (hm : m = ys.length) (hr : Prs w B A ys) (hA : A = none → c = 0) (hlen : xs.length + ys.length ≤ 4398046511104) (hbase : base ≤ w.heap.size)
    (h : ∀ v' w', w'.ownsRow base 46 2 v' (xs ++ ys).length (prsV (xs ++ ys)) → w.grownBy w' v.ownBlock → (v'.ownBlock = v.ownBlock ∨ v'.ownBlock = some w.heap.size) → wpList Tryz.prog ops Q rest (a.put o.dst v') w') :
    wpList Tryz.prog ops Q (o :: rest) a w := by
  obtain ⟨i0, hi, hz0, hz1, hz2⟩ := info_parts Tryz.info_pair
  subst hm
  cases A with
  | none =>
    have hy : ys = [] := by
      rcases hr with h | ⟨b, o, h, _⟩
      · exact h
      · cases h
    subst hy
    have := hA rfl
    subst this
    refine wpList_append_own_none hgd s x 22 ho base 46 i0 2 Tryz.under_pairs hi v xs.length (prsV xs) hs hown hx ?_
    exact h v w (by simpa using hown) (World.grownBy.refl w _) (.inl rfl)
  | some ad =>
    have hcells : ∀ j u, (prsV ys)[j]? = some u → w.cell? (ad.add j) = some u := by
      intro j u hu
      rcases hr with rfl | ⟨b, o, hA', _, hc⟩
      · simp [prsV] at hu
      · cases hA'
        rw [show (⟨b, o, none⟩ : Addr).add j = ⟨b, o + j, none⟩ by unfold Addr.add; split <;> simp_all]
        exact hc j u hu
    refine wpList_append_own_at w hgd s x 22 ho base 46 i0 (.agg #[.string ⟨#[]⟩, .string ⟨#[]⟩]) 2 32 Tryz.under_pairs hi hz0 hz1 hz2 rfl (by decide) v xs.length (prsV xs) hs hown ad ys.length c (prsV ys) hx (prsV_len ys) hcells (prsV_one ys) (by unfold maxLen; omega) (by omega) hbase ?_
    intro v' w' h1 h2 _ h4
    exact h v' w' (by rw [List.length_append, prsV_append]; exact h1) h2 h4
end
/-- loftref08.Compare -/
theorem rcmp_at (a b : ByteArray) (w : World) (ha : a.size ≤ 9223372036854775807) (hb : b.size ≤ 9223372036854775807) :
    Calls Tryz.prog 77 #[.string a, .string b] w fun e w' => e = .returned (.int .i64 (Tx.cmp a b)) ∧ Below w.heap.size w w' :=
  (Tx.refCmp_any a b w ha hb).mono fun e w' ⟨he, d, hd⟩ => ⟨he, by rw [hd]; exact Tx.drewN_below w d⟩
theorem rankL_take (l : List Pr) (k : Nat) (h : k < l.length) (key : ByteArray) : rankL (l.take (k + 1)) key = rankL (l.take k) key + if Tx.cmp l[k].1 key < 0 then 1 else 0 := by
  rw [List.take_succ_eq_append_getElem h, rankL_append, rankL_cons]
  simp [rankL]
def Sized (l : List Pr) : Prop := ∀ p ∈ l, p.1.size ≤ 9223372036854775807 ∧ p.2.size ≤ 9223372036854775807
set_option maxRecDepth 100000 in
theorem refRank_at {w : World} {B c : Nat} {A : Option Addr} {l : List Pr} (h : Prs w B A l) (hB : B ≤ w.heap.size) (hl : l.length ≤ 4398046511104) (hs : Sized l) (key : ByteArray) (hk : key.size ≤ 9223372036854775807) :
    Calls Tryz.prog 42 #[.slice A l.length c, .string key] w fun e w' => e = .returned (.int .i64 (rankL l key : Nat)) ∧ Below w.heap.size w w' := by
  have hH := Lib.hid h
  have hcm := Lib.hid (fun (p : Pr) (hp : p ∈ l) (W : World) => rcmp_at p.1 key W (hs p hp).1 hk)
  clear h hs
  go_enter Tryz.func42, Tryz.ntmps42
  go_wp2_with fail
  go_loopw [5, 6] (fun nv iv wr => ∃ k : Nat, k ≤ l.length ∧ iv = .int .i64 k ∧ nv = .int .i64 (rankL (l.take k) key : Nat) ∧ Hid (Below w.heap.size w wr)) (fun _ iv _ => l.length - (intOf iv).toNat)
  case atStart => exact ⟨0, by omega, rfl, rfl, Lib.hid (Below.refl _ _)⟩
  case round =>
    obtain ⟨k, hk2, rfl, rfl, hb⟩ := hrel
    have hr := rankL_le (l.take k) key
    rw [List.length_take] at hr
    have hr2 : rankL (l.take k) key ≤ k := by omega
    by_cases hlt : k < l.length
    · obtain ⟨b, o, hA, _, c1, _⟩ := (hH.out.below (hb.out.mono hB)).at' hlt
      have hrk := Lib.hid (rankL_take l k hlt key)
      have hcall := Lib.hid (hcm.out l[k] (List.getElem_mem hlt))
      generalize l[k] = p at *
      obtain ⟨z, hz⟩ : ∃ z, Tx.cmp p.1 key = z := ⟨_, rfl⟩
      rw [hz] at hrk hcall
      clear hz hr
      generalize hn9 : rankL (l.take k) key = n9 at *
      clear hn9
      subst hA
      have hz0 : z < 0 ∨ ¬ z < 0 := by omega
      rcases hz0 with h0 | h0
      all_goals
        go_wp2_with fail
        refine (hcall.out _).mono ?_
        rintro e w1 ⟨rfl, hb1⟩
        have hb1H := Lib.hid (hb.out.trans (hb1.mono hb.out.size))
        clear hb1 c1
        go_wp2
        go_roundw
        case rel => exact ⟨k + 1, by omega, by go_num, by rw [hrk.out]; first | (rw [if_pos h0]; go_num) | (rw [if_neg (by omega)]; rfl), hb1H⟩
        case measure => simp [intOf]; omega
    · obtain rfl : k = l.length := by omega
      have hfin : Hid (rankL (l.take l.length) key = rankL l key) := Lib.hid (by rw [List.take_length])
      go_wp2
      go_ret
      exact ⟨by rw [hfin.out]; rfl, hb.out⟩
theorem str_beq (a b : ByteArray) : (a.toList == b.toList) = decide (a = b) := by
  rw [Tx.cmp_beq, Bool.eq_iff_iff, beq_iff_eq, decide_eq_true_iff, cmp_zero]
end Go.Proofs.YtjpmlneihbckpaaGreatDoor
/- loftref11: Put, Sorted, Long. -/
set_option linter.unusedVariables false
set_option linter.unusedSimpArgs false
namespace Go.Proofs.YtjpmlneihbckpaaGreatDoor
open Go.RowKit Go.Shelf
/-- what loftref11.Put answers -/
def putL (l : List Pr) (p : Pr) : List Pr := l.take (rankL l p.1) ++ p :: l.drop (if (l[rankL l p.1]?).map (·.1) = some p.1 then rankL l p.1 + 1 else rankL l p.1)
theorem putL_len (l : List Pr) (p : Pr) : (putL l p).length ≤ l.length + 1 := by
  have := rankL_le l p.1
  unfold putL
  simp only [List.length_append, List.length_take, List.length_cons, List.length_drop]
  split <;> omega
theorem putL_mem {l : List Pr} {p q : Pr} (h : q ∈ putL l p) : q = p ∨ q ∈ l := by
  unfold putL at h
  rcases List.mem_append.1 h with h | h
  · exact .inr (List.mem_of_mem_take h)
  · rcases List.mem_cons.1 h with h | h
    · exact .inl h
    · exact .inr (List.mem_of_mem_drop h)
theorem Sized.put {l : List Pr} {p : Pr} (h : Sized l) (hp : p.1.size ≤ 9223372036854775807 ∧ p.2.size ≤ 9223372036854775807) : Sized (putL l p) := fun q hq => by
  rcases putL_mem hq with rfl | hq
  · exact hp
  · exact h q hq
theorem own2_lt {w : World} {base : Nat} {e : TypeId} {v : Value} {n : Nat} {xs : List Value} (h : w.ownsRow base e 2 v n xs) {k : Nat} (hk : v.ownBlock = some k) : base ≤ k ∧ k < w.heap.size := by
  rcases h.2 with ⟨rfl, _⟩ | ⟨g, cap, cur, rfl, h2, h3, _⟩
  · simp [Value.ownBlock] at hk
  · have : g = k := by simpa [Value.ownBlock] using hk
    subst this
    exact ⟨h2, (Array.getElem?_eq_some_iff.1 h3).1⟩
theorem own_lower {w : World} {base base' size : Nat} {e : TypeId} {v : Value} {n : Nat} {xs : List Value} (h : w.ownsRow base e size v n xs) (hb : base' ≤ base) : w.ownsRow base' e size v n xs := by
  refine ⟨h.1, ?_⟩
  rcases h.2 with h0 | ⟨g, cap, cur, h1, h2, h3⟩
  · exact .inl h0
  · exact .inr ⟨g, cap, cur, h1, by omega, h3⟩
theorem own_empty (w : World) (e : TypeId) : (w.alloc (.cells #[] e)).ownsRow w.heap.size e 2 (.slice (some ⟨w.heap.size, 0, none⟩) 0 0) 0 [] :=
  ⟨rfl, .inr ⟨w.heap.size, 0, #[], rfl, Nat.le_refl _, World.alloc_heap_new w _, Nat.le_refl _, Nat.zero_le _, rfl, rfl⟩⟩
theorem prs_one (w : World) (p : Pr) : Prs (w.alloc (.cells #[.string p.1, .string p.2] 46)) (w.heap.size + 1) (some ⟨w.heap.size, 0, none⟩) [p] := by
  refine .inr ⟨w.heap.size, 0, rfl, by omega, fun j u hu => ?_⟩
  have hn : (w.alloc (.cells #[.string p.1, .string p.2] 46)).heap[w.heap.size]? = some (.cells #[.string p.1, .string p.2] 46 (0, 0)) := World.alloc_heap_new w _
  generalize w.alloc (.cells #[.string p.1, .string p.2] 46) = V at *
  rcases j with _ | _ | j
  · simp [prsV] at hu; subst hu; simp [World.cell?, hn]
  · simp [prsV] at hu; subst hu; simp [World.cell?, hn]
  · simp [prsV] at hu
/-- 'l[k:]' -/
theorem slice_from (A : Option Addr) (n k c : Nat) (hk : k ≤ n) (hc : n ≤ c) : ∃ A', (∀ W, (Instr.sliceAt 22 (.slice A n c) (some (.int .i64 (k : Nat))) none none).run Tryz.prog W = .ok (.slice A' (n - k) (c - k)) W) ∧ (∀ W, (Instr.slice 22 (.slice A n c) (some (.int .i64 (k : Nat))) none none).run Tryz.prog W = .ok (.slice A' (n - k) (c - k)) W) ∧
    (∀ (W : World) (B : Nat) (l : List Pr), l.length = n → Prs W B A l → Prs W B A' (l.drop k)) ∧ ((A = none → c = 0) → A' = none → c - k = 0) := by
  have e2 : ∀ W, (Instr.slice 22 (.slice A n c) (some (.int .i64 (k : Nat))) none none).run Tryz.prog W = .ok (.slice (if c = k then A else A.map (·.add (k * 2))) (n - k) (c - k)) W := fun W => by
    rw [run_slice_l W 22 A n c (by kernel_rfl) .i64 (k : Nat) (by omega) (by omega)]
    rw [show Tryz.prog.elem 22 = 46 by kernel_rfl, show (sizeOf 46).run Tryz.prog W = .ok 2 W by kernel_rfl]
    simp [sliced, Result.andThen]
  refine ⟨if c = k then A else A.map (·.add (k * 2)), fun W => ?_, e2, fun W B l hl h => ?_, fun hA h => ?_⟩
  · rw [run_sliceAt_slice W 22 _ _ _ _ (by kernel_rfl)]
    exact e2 W
  · exact h.drop (by omega) (by omega)
  · by_cases he : c = k
    · omega
    · rw [if_neg he] at h
      cases A with
      | none => have := hA rfl; omega
      | some a => cases h
theorem own_below {w w1 w2 : World} {base : Nat} {e : TypeId} {n : Nat} {v : Value} {xs : List Value} (hb : Below base w w1) (hown : w1.ownsRow base e 2 v n xs) (hg : w1.grownBy w2 v.ownBlock) (hB : base ≤ w1.heap.size) : Below base w w2 :=
  hb.trans ⟨hg.os, hg.tape, hg.output, hg.size, fun k hk => hg.block k (by omega) (fun e => by
    rcases hown.2 with ⟨rfl, _⟩ | ⟨g, cap, cur, rfl, hge, _⟩
    · simp [Value.ownBlock] at e
    · have : k = g := by simpa [Value.ownBlock] using e
      omega)⟩
set_option maxHeartbeats 2000000 in
set_option maxRecDepth 100000 in
theorem refPut_at {w : World} {B c : Nat} {A : Option Addr} {l : List Pr} (h : Prs w B A l) (hB : B ≤ w.heap.size) (hA : A = none → c = 0) (hc : l.length ≤ c) (hl : l.length ≤ 4398046511103) (hs : Sized l) (p : Pr) (hk : p.1.size ≤ 9223372036854775807) :
    Calls Tryz.prog 44 #[.slice A l.length c, .agg #[.string p.1, .string p.2]] w fun e w' => ∃ v, e = .returned v ∧ w'.ownsRow w.heap.size 46 2 v (putL l p).length (prsV (putL l p)) ∧ Below w.heap.size w w' := by
  have hR := Lib.hid (fun W (hb : Below w.heap.size w W) => refRank_at (c := c) (h.below (hb.mono hB)) (Nat.le_trans hB hb.size) (by omega) hs p.1 hk)
  have hle := rankL_le l p.1
  obtain ⟨P, hP⟩ : ∃ P, putL l p = P := ⟨_, rfl⟩
  have hv : P = l.take (rankL l p.1) ++ p :: l.drop (if (l[rankL l p.1]?).map (·.1) = some p.1 then rankL l p.1 + 1 else rankL l p.1) := hP ▸ rfl
  rw [hP]
  have hH := Lib.hid h
  generalize rankL l p.1 = n at *
  obtain ⟨b, hb⟩ : ∃ b : Bool, ((l[n]?).map (·.1) = some p.1 ↔ b = true) := ⟨decide ((l[n]?).map (·.1) = some p.1), by simp⟩
  obtain ⟨n', hn'⟩ : ∃ n', n' = if b = true then n + 1 else n := ⟨_, rfl⟩
  have hv2 : P = l.take n ++ p :: l.drop n' := by
    rw [hv, hn']
    by_cases hq : (l[n]?).map (·.1) = some p.1
    · simp only [if_pos hq, if_pos (hb.1 hq)]
    · simp only [if_neg hq, if_neg (fun e => hq (hb.2 e))]
  have hbl : b = true → n < l.length := fun e => by
    have := hb.2 e
    by_cases h : n < l.length
    · exact h
    · rw [List.getElem?_eq_none (by omega)] at this; cases this
  have hn'l : n' ≤ l.length := by
    rw [hn']
    split
    · have := hbl ‹_›; omega
    · omega
  have hn'H := Lib.hid hn'
  have hblH := Lib.hid hbl
  clear hn' hbl
  have hAH := Lib.hid hA
  obtain ⟨A', sl1, sl2, hdr, hA'⟩ := slice_from A l.length n' c hn'l hc
  have hdrH := Lib.hid hdr
  have hA'H := Lib.hid (hA' hA)
  clear hdr hA'
  have htl : n = (l.take n).length := by rw [List.length_take]; omega
  have htlH := Lib.hid htl
  clear htl hA
  have hvH := Lib.hid hv2
  have hbH := Lib.hid hb
  clear h hs hP hv hv2 hb
  go_enter Tryz.func44, Tryz.ntmps44
  go_wp2_with fail
  have hb0 : Below w.heap.size w (w.alloc (Obj.cells #[Value.string p.1, Value.string p.2] 46)) := (Below.refl _ w).alloc (Nat.le_refl _) _
  have q0 : (w.alloc (Obj.cells #[Value.string p.1, Value.string p.2] 46)).cell? ⟨w.heap.size, 0, none⟩ = some (.string p.1) := by go_simp
  have q1 : (w.alloc (Obj.cells #[Value.string p.1, Value.string p.2] 46)).cell? ⟨w.heap.size, 1, none⟩ = some (.string p.2) := by go_simp
  refine (hR.out _ hb0).mono ?_
  rintro e w1 ⟨rfl, hb1⟩
  have hbw1 := hb0.trans (hb1.mono hb0.size)
  have r0 := (hb1.cell (p := ⟨w.heap.size, 0, none⟩) (cell_lt q0)).trans q0
  have r1 := (hb1.cell (p := ⟨w.heap.size, 1, none⟩) (cell_lt q1)).trans q1
  have hlt1 : w.heap.size < w1.heap.size := cell_lt (a := ⟨w.heap.size, 0, none⟩) r0
  have hbwH := Lib.hid hbw1
  clear hb1 hbw1 q0 q1 hb0
  have hown0 := Lib.hid (own_empty w1 46)
  have hP1 := Lib.hid ((hH.out.below (hbwH.out.mono hB)).more (Nat.le_trans hB hbwH.out.size))
  have r0H := Lib.hid r0
  have tok : True := trivial
  go_wp2_with (first
    | (at_builtin; have _t := tok; go_must (refine app_prs rfl (.tmp 11) (.tmp 14) rfl _ w1.heap.size _ [] rfl hown0.out w1.heap.size A n c (l.take n) rfl htlH.out ((hP1.out.below ((Below.refl _ w1).alloc (Nat.le_refl _) _)).take n) hAH.out (by simp; omega) (by simp) ?_); intro v2 w2 hown2 hg2 _; clear tok; have hb2 := own_below ((Below.refl _ w1).alloc (Nat.le_refl _) _) hown0.out hg2 (by simp); have s0 := (hb2.cell (p := ⟨w.heap.size, 0, none⟩) (cell_lt r0)).trans r0; have s1 := (hb2.cell (p := ⟨w.heap.size, 1, none⟩) (cell_lt r1)).trans r1; have hb2H := Lib.hid hb2; have hown2H := Lib.hid hown2; clear hb2 hown2 hg2 r0 r1)
    | (at_builtin; go_must (refine app_prs rfl (.tmp 16) (.tmp 18) rfl _ w1.heap.size _ ([] ++ l.take n) rfl (hown2H.out.alloc _) (w2.heap.size + 1) _ 1 1 [p] rfl rfl (prs_one w2 p) (fun e => by cases e) (by simp; omega) (by have := hb2H.out.size; simp; omega) ?_); intro v3 w3 hown3 hg3 _; have hb3 := own_below (hb2H.out.alloc hb2H.out.size _) (hown2H.out.alloc _) hg3 (by have := hb2H.out.size; simp; omega)))
  have hb3H := Lib.hid hb3
  have hown3H := Lib.hid hown3
  have u0 := (hb3.cell (p := ⟨w.heap.size, 0, none⟩) (cell_lt r0H.out)).trans r0H.out
  have hP3 := Lib.hid (hP1.out.below hb3)
  clear hb3 hown3 hg3 s0 s1
  have hP4 := Lib.hid (hdrH.out w3 w1.heap.size l rfl hP3.out)
  have hdl : Hid (l.length - n' = (l.drop n').length) := Lib.hid (by rw [List.length_drop])
  have hP5 : Hid (P = [] ++ l.take n ++ [p] ++ l.drop n') := Lib.hid (by rw [hvH.out]; simp)
  by_cases hlt : n < l.length
  · have hd : decide (n < l.length) = true := by simp; omega
    obtain ⟨bb, oo, hAs, _, c1, _⟩ := hP3.out.at' hlt
    subst hAs
    have hsb := str_beq l[n].1 p.1
    have hbn := hbH.out
    rw [List.getElem?_eq_getElem hlt, Option.map_some, Option.some.injEq] at hbn
    generalize l[n] = pn at *
    cases b with
    | true =>
      have hq : (pn.1.toList == p.1.toList) = true := by rw [hsb]; exact decide_eq_true (hbn.2 rfl)
      rw [if_pos rfl] at hn'H
      have hn2 := hn'H.out
      subst hn2
      clear hbn hsb hn'H
      push_cast at sl1 sl2
      go_wp2
      go_quiet (fail)
      go_wp2_with (at_builtin; go_must (refine app_prs rfl (.tmp 36) (.tmp 39) rfl _ w1.heap.size _ ([] ++ l.take n ++ [p]) rfl hown3H.out w1.heap.size A' _ _ (l.drop (n + 1)) rfl hdl.out hP4.out hA'H.out (by simp; omega) hb3H.out.size ?_); intro v4 w4 hown4 hg4 _)
      have hb4 := Lib.hid (own_below (hb3H.out.trans ((Tx.drewN_below w3 _).mono hb3H.out.size)) hown3H.out hg4 hb3H.out.size)
      rw [← hP5.out] at hown4
      have hfin := Lib.hid (own_lower hown4 hbwH.out.size)
      go_ret
      exact ⟨v4, rfl, hfin.out, hbwH.out.trans (hb4.out.mono hbwH.out.size)⟩
    | false =>
      have hq : (pn.1.toList == p.1.toList) = false := by
        rw [hsb]
        refine decide_eq_false (fun e => ?_)
        have := hbn.1 e
        cases this
      rw [if_neg (by simp)] at hn'H
      have hn2 := hn'H.out
      subst hn2
      clear hbn hsb hn'H
      go_wp2
      go_quiet (fail)
      go_wp2_with (at_builtin; go_must (refine app_prs rfl (.tmp 36) (.tmp 39) rfl _ w1.heap.size _ ([] ++ l.take n' ++ [p]) rfl hown3H.out w1.heap.size A' _ _ (l.drop (n')) rfl hdl.out hP4.out hA'H.out (by simp; omega) hb3H.out.size ?_); intro v4 w4 hown4 hg4 _)
      have hb4 := Lib.hid (own_below (hb3H.out.trans ((Tx.drewN_below w3 _).mono hb3H.out.size)) hown3H.out hg4 hb3H.out.size)
      rw [← hP5.out] at hown4
      have hfin := Lib.hid (own_lower hown4 hbwH.out.size)
      go_ret
      exact ⟨v4, rfl, hfin.out, hbwH.out.trans (hb4.out.mono hbwH.out.size)⟩
  · have hd : decide (n < l.length) = false := by simp; omega
    have hbf : b = false := by
      cases b with
      | true => exact absurd (hblH.out rfl) hlt
      | false => rfl
    rw [hbf, if_neg (by simp)] at hn'H
    have hn2 := hn'H.out
    subst hn2
    clear hn'H hbf hlt
    go_wp2
    go_quiet (fail)
    go_wp2_with (at_builtin; go_must (refine app_prs rfl (.tmp 36) (.tmp 39) rfl _ w1.heap.size _ ([] ++ l.take n' ++ [p]) rfl hown3H.out w1.heap.size A' _ _ (l.drop (n')) rfl hdl.out hP4.out hA'H.out (by simp; omega) hb3H.out.size ?_); intro v4 w4 hown4 hg4 _)
    have hb4 := Lib.hid (own_below (hb3H.out.trans ((Tx.drewN_below w3 _).mono hb3H.out.size)) hown3H.out hg4 hb3H.out.size)
    rw [← hP5.out] at hown4
    have hfin := Lib.hid (own_lower hown4 hbwH.out.size)
    go_ret
    exact ⟨v4, rfl, hfin.out, hbwH.out.trans (hb4.out.mono hbwH.out.size)⟩
end Go.Proofs.YtjpmlneihbckpaaGreatDoor
/- loftref11: Sorted, Long. -/
set_option linter.unusedVariables false
set_option linter.unusedSimpArgs false
namespace Go.Proofs.YtjpmlneihbckpaaGreatDoor
open Go.RowKit Go.Shelf
theorem own_pairs {w : World} {base n : Nat} {v : Value} {l : List Pr} (h : w.ownsRow base 46 2 v n (prsV l)) (hn : n = l.length) : ∃ A c, v = .slice A l.length c ∧ (A = none → c = 0) ∧ l.length ≤ c ∧ Prs w w.heap.size A l := by
  subst hn
  rcases h.2 with ⟨h1, h0⟩ | ⟨g, cap, cur, h1, h2, h3, h4, _⟩
  · have : l = [] := List.eq_nil_of_length_eq_zero h0
    subst this
    exact ⟨none, 0, h1, fun _ => rfl, Nat.le_refl _, .inl rfl⟩
  · refine ⟨some ⟨g, 0, none⟩, cap, h1, (fun e => by cases e), h4, ?_⟩
    rw [h1] at h
    exact Prs.of_own h rfl
def sortedL (l : List Pr) : List Pr := l.foldl putL []
theorem sortedL_snoc (l : List Pr) (k : Nat) (h : k < l.length) : sortedL (l.take (k + 1)) = putL (sortedL (l.take k)) l[k] := by
  unfold sortedL
  rw [List.take_succ_eq_append_getElem h, List.foldl_append]
  rfl
theorem foldl_putL_len : ∀ (l m : List Pr), (l.foldl putL m).length ≤ m.length + l.length
  | [], m => by simp
  | p :: l, m => by
    have h1 := foldl_putL_len l (putL m p)
    have h2 := putL_len m p
    simp only [List.foldl_cons, List.length_cons]
    omega
theorem sortedL_len (l : List Pr) : (sortedL l).length ≤ l.length := by
  have := foldl_putL_len l []
  simp only [List.length_nil, Nat.zero_add] at this
  exact this
theorem foldl_putL_mem : ∀ (l m : List Pr) (q : Pr), q ∈ l.foldl putL m → q ∈ m ∨ q ∈ l
  | [], m, q, h => .inl h
  | p :: l, m, q, h => by
    rcases foldl_putL_mem l (putL m p) q h with h | h
    · rcases putL_mem h with rfl | h
      · exact .inr (by simp)
      · exact .inl h
    · exact .inr (by simp [h])
theorem sortedL_mem {l : List Pr} {q : Pr} (h : q ∈ sortedL l) : q ∈ l := by
  rcases foldl_putL_mem l [] q h with h | h
  · simp at h
  · exact h
theorem Sized.sorted {l : List Pr} (h : Sized l) : Sized (sortedL l) := fun q hq => h q (sortedL_mem hq)
theorem Sized.take {l : List Pr} (h : Sized l) (k : Nat) : Sized (l.take k) := fun q hq => h q (List.mem_of_mem_take hq)
set_option maxHeartbeats 1000000 in
set_option maxRecDepth 100000 in
theorem refSorted_at {w : World} {B c : Nat} {A : Option Addr} {l : List Pr} (h : Prs w B A l) (hB : B ≤ w.heap.size) (hl : l.length ≤ 4398046511104) (hs : Sized l) :
    Calls Tryz.prog 18 #[.slice A l.length c] w fun e w' => ∃ v, e = .returned v ∧ w'.ownsRow w.heap.size 46 2 v (sortedL l).length (prsV (sortedL l)) ∧ Below w.heap.size w w' := by
  have hH := Lib.hid h
  have hsH := Lib.hid hs
  clear h hs
  go_enter Tryz.func18, Tryz.ntmps18
  go_wp2_with fail
  go_loopw [3, 4] (fun vv iv wr => ∃ k : Nat, k ≤ l.length ∧ iv = .int .i64 k ∧ Hid (wr.ownsRow w.heap.size 46 2 vv (sortedL (l.take k)).length (prsV (sortedL (l.take k)))) ∧ Hid (Below w.heap.size w wr)) (fun _ iv _ => l.length - (intOf iv).toNat)
  case atStart => exact ⟨0, by omega, rfl, Lib.hid (World.ownsRow_nil _ _ _ _), Lib.hid (Below.refl _ _)⟩
  case round =>
    obtain ⟨k, hk, rfl, hrow, hb⟩ := hrel
    by_cases hlt : k < l.length
    · obtain ⟨b, o, hA, _, c1, c2⟩ := (hH.out.below (hb.out.mono hB)).at' hlt
      have hsn := Lib.hid (sortedL_snoc l k hlt)
      have hp := Lib.hid (hsH.out _ (List.getElem_mem hlt))
      have hlen := sortedL_len (l.take k)
      rw [List.length_take] at hlen
      have hso := Lib.hid ((hsH.out.take k).sorted)
      generalize l[k] = p at *
      generalize sortedL (l.take k) = m at *
      obtain ⟨A2, cc, hv, hA2, hc2, hp2⟩ := own_pairs hrow.out rfl
      subst hv hA
      have hcall := Lib.hid (refPut_at (w := wr) (c := cc) hp2 (Nat.le_refl _) hA2 hc2 (by omega) hso.out p hp.out.1)
      clear hA2 hp2 hlen
      go_wp2_with fail
      refine hcall.out.mono ?_
      rintro e w1 ⟨v1, rfl, hrow1, hb1⟩
      have hrow1H := Lib.hid (own_lower hrow1 hb.out.size)
      have hb1H := Lib.hid (hb.out.trans (hb1.mono hb.out.size))
      clear hrow1 hb1
      go_wp2
      go_roundw
      case rel => exact ⟨k + 1, by omega, by go_num, by rw [hsn.out]; exact hrow1H, hb1H⟩
      case measure => simp [intOf]; omega
    · obtain rfl : k = l.length := by omega
      have hfin : Hid (sortedL (l.take l.length) = sortedL l) := Lib.hid (by rw [List.take_length])
      go_wp2
      go_ret
      exact ⟨_, rfl, by rw [← hfin.out]; exact hrow.out, hb.out⟩
/-- is a text in a list longer than there may be? -/
def longL (l : List Pr) : Bool := l.any fun p => decide (1000 < p.1.size) || decide (1000 < p.2.size)
set_option maxRecDepth 100000 in
theorem refLong_at {w : World} {B c : Nat} {A : Option Addr} {l : List Pr} (h : Prs w B A l) (hl : l.length ≤ 9223372036854775807) (hs : Sized l) :
    Calls Tryz.prog 15 #[.slice A l.length c] w fun e w' => e = .returned (.bool (longL l)) ∧ w = w' := by
  have hH := Lib.hid h
  have hsH := Lib.hid hs
  obtain ⟨z, hz⟩ : ∃ z, longL l = z := ⟨_, rfl⟩
  have hzH := Lib.hid hz
  rw [hz]
  clear h hs hz
  go_enter Tryz.func15, Tryz.ntmps15
  go_wp2_with fail
  go_loopw [3] (fun iv wr => ∃ k : Nat, k ≤ l.length ∧ iv = .int .i64 k ∧ wr = w ∧ Hid (longL (l.take k) = false)) (fun iv _ => l.length - (intOf iv).toNat)
  case atStart => exact ⟨0, by omega, rfl, rfl, Lib.hid rfl⟩
  case round =>
    obtain ⟨k, hk, rfl, rfl, hno⟩ := hrel
    by_cases hlt : k < l.length
    · obtain ⟨b, o, hA, _, c1, c2⟩ := hH.out.at' hlt
      obtain ⟨hp1, hp2⟩ := hsH.out _ (List.getElem_mem hlt)
      have hsn : Hid (longL (l.take (k + 1)) = (longL (l.take k) || (decide (1000 < l[k].1.size) || decide (1000 < l[k].2.size)))) := Lib.hid (by
        unfold longL
        rw [List.take_succ_eq_append_getElem hlt, List.any_append]
        simp)
      have hall : Hid (∀ p, p = l[k] → (1000 < p.1.size ∨ 1000 < p.2.size) → z = true) := Lib.hid (fun p hp hq => by
        rw [← hzH.out]
        unfold longL
        rw [List.any_eq_true]
        exact ⟨p, by rw [hp]; exact List.getElem_mem hlt, by simpa using hq⟩)
      generalize l[k] = p at *
      subst hA
      by_cases h1 : 1000 < p.1.size
      · have hz1 := Lib.hid (hall.out p rfl (.inl h1))
        go_wp2
        go_ret
        exact ⟨by rw [hz1.out]; rfl, rfl⟩
      · by_cases h2 : 1000 < p.2.size
        · have hz1 := Lib.hid (hall.out p rfl (.inr h2))
          go_wp2
          go_ret
          exact ⟨by rw [hz1.out]; rfl, rfl⟩
        · go_wp2
          go_roundw
          case rel => exact ⟨k + 1, by omega, by go_num, trivial, Lib.hid (by rw [hsn.out, hno.out]; simp [h1, h2])⟩
          case measure => simp [intOf]; omega
    · obtain rfl : k = l.length := by omega
      have hz1 : Hid (z = false) := Lib.hid (by rw [← hzH.out, ← hno.out, List.take_length])
      go_wp2
      go_ret
      exact ⟨by rw [hz1.out]; rfl, rfl⟩
end Go.Proofs.YtjpmlneihbckpaaGreatDoor
/- loftlaw11.grow: plain part, slices off a store's blocks. -/
set_option linter.unusedVariables false
set_option linter.unusedSimpArgs false
namespace Go.Proofs.YtjpmlneihbckpaaGreatDoor
open Go.RowKit Go.Shelf
/-- what a tree that was made leaves of the records -/
structure GrowOut (R R' : Nat → Option (List Nat)) (t : BT) : Prop where
  at' : t.At R'
  nodup : t.hs.Nodup
  fresh : ∀ x ∈ t.hs, R x = none
  old : ∀ x, x ∉ t.hs → R' x = R x
  nz : ∀ x ∈ t.hs, x ≠ 0
theorem BT.At.congr {R R' : Nat → Option (List Nat)} : ∀ {t : BT}, t.At R → (∀ x ∈ t.hs, R' x = R x) → t.At R'
  | .nil, _, _ => trivial
  | .node h kh vh m k v l r, ⟨h1, h2, h3, h4, h5, h6, hl, hr⟩, he => by
    simp only [BT.hs, List.mem_append, List.mem_cons] at he
    exact ⟨h1, (he h (by simp)).trans h2, (he kh (by simp)).trans h3, (he vh (by simp)).trans h4, h5, h6, hl.congr (fun x hx => he x (.inl hx)), hr.congr (fun x hx => he x (.inr (.inr (.inr (.inr hx)))))⟩
theorem GrowOut.nil (R : Nat → Option (List Nat)) : GrowOut R R .nil := ⟨trivial, List.nodup_nil, fun x hx => by simp [BT.hs] at hx, fun x _ => rfl, fun x hx => by simp [BT.hs] at hx⟩
theorem GrowOut.some {R R' : Nat → Option (List Nat)} {t : BT} (g : GrowOut R R' t) {x : Nat} (hx : x ∈ t.hs) : R' x ≠ none := BT.hs_in t g.at' x hx
theorem GrowOut.keep {R R' : Nat → Option (List Nat)} {t : BT} (g : GrowOut R R' t) {x : Nat} (hx : R x ≠ none) : R' x = R x := g.old x (fun h => hx (g.fresh x h))
/-- a node over two trees that were made one behind the other -/
theorem grow_plain {R R3 R4 : Nat → Option (List Nat)} {xk xv h : Nat} {k v : ByteArray} {tl tr : BT} (hk : R xk = none) (k0 : xk ≠ 0) (hv : updR R xk (some (Tx.wordsL k.data.toList)) xv = none) (v0 : xv ≠ 0)
    (gl : GrowOut (updR (updR R xk (some (Tx.wordsL k.data.toList))) xv (some (Tx.wordsL v.data.toList))) R3 tl) (gr : GrowOut R3 R4 tr) (hh : R4 h = none) (h0 : h ≠ 0) (hks : k.size ≤ 1000) (hvs : v.size ≤ 1000) (m : Nat) :
    GrowOut R (updR R4 h (some (Nd.ws ⟨xk, xv, tl.root, tr.root, m, tl.size + 1 + tr.size⟩))) (.node h xk xv m k v tl tr) := by
  have hkv : xk ≠ xv := fun e => by rw [← e, updR_same] at hv; cases hv
  have hv2 : R xv = none := (updR_other (fun e => hkv e.symm)).symm.trans hv
  have e2k : updR (updR R xk (some (Tx.wordsL k.data.toList))) xv (some (Tx.wordsL v.data.toList)) xk = some (Tx.wordsL k.data.toList) := by rw [updR_other hkv, updR_same]
  have e2v : updR (updR R xk (some (Tx.wordsL k.data.toList))) xv (some (Tx.wordsL v.data.toList)) xv = some (Tx.wordsL v.data.toList) := updR_same _ _ _
  have e3k : R3 xk = some (Tx.wordsL k.data.toList) := by rw [gl.keep (by rw [e2k]; simp), e2k]
  have e3v : R3 xv = some (Tx.wordsL v.data.toList) := by rw [gl.keep (by rw [e2v]; simp), e2v]
  have e4k : R4 xk = some (Tx.wordsL k.data.toList) := by rw [gr.keep (by rw [e3k]; simp), e3k]
  have e4v : R4 xv = some (Tx.wordsL v.data.toList) := by rw [gr.keep (by rw [e3v]; simp), e3v]
  have hhk : xk ≠ h := fun e => by rw [e, hh] at e4k; cases e4k
  have hhv : xv ≠ h := fun e => by rw [e, hh] at e4v; cases e4v
  have hl4 : ∀ x ∈ tl.hs, R4 x = R3 x := fun x hx => gr.keep (gl.some hx)
  have hlh : ∀ x ∈ tl.hs, x ≠ h := fun x hx e => by
    have := gl.some hx
    rw [← hl4 x hx, e, hh] at this
    exact this rfl
  have hrh : ∀ x ∈ tr.hs, x ≠ h := fun x hx e => by
    have := gr.some hx
    rw [e, hh] at this
    exact this rfl
  have fl : ∀ x ∈ tl.hs, x ≠ xk ∧ x ≠ xv ∧ R x = none := fun x hx => by
    have h1 := gl.fresh x hx
    have a1 : x ≠ xv := fun e => by rw [e, e2v] at h1; cases h1
    have a2 : x ≠ xk := fun e => by rw [e, e2k] at h1; cases h1
    rw [updR_other a1, updR_other a2] at h1
    exact ⟨a2, a1, h1⟩
  have fr : ∀ x ∈ tr.hs, x ≠ xk ∧ x ≠ xv ∧ x ∉ tl.hs ∧ R x = none := fun x hx => by
    have h1 := gr.fresh x hx
    have a1 : x ≠ xv := fun e => by rw [e, e3v] at h1; cases h1
    have a2 : x ≠ xk := fun e => by rw [e, e3k] at h1; cases h1
    have a3 : x ∉ tl.hs := fun e => gl.some e h1
    rw [gl.old x a3, updR_other a1, updR_other a2] at h1
    exact ⟨a2, a1, a3, h1⟩
  have fh : h ∉ tl.hs ∧ h ∉ tr.hs := ⟨fun e => hlh h e rfl, fun e => hrh h e rfl⟩
  have hRh : R h = none := by
    have h1 := hh
    rw [gr.old h fh.2, gl.old h fh.1, updR_other (fun e => hhv e.symm), updR_other (fun e => hhk e.symm)] at h1
    exact h1
  refine ⟨⟨h0, updR_same _ _ _, ?_, ?_, hks, hvs, ?_, ?_⟩, ?_, ?_, ?_, ?_⟩
  · rw [updR_other hhk, e4k]
  · rw [updR_other hhv, e4v]
  · exact gl.at'.congr fun x hx => by rw [updR_other (hlh x hx), hl4 x hx]
  · exact gr.at'.congr fun x hx => by rw [updR_other (hrh x hx)]
  · simp only [BT.hs]
    rw [List.nodup_append]
    refine ⟨gl.nodup, ?_, ?_⟩
    · simp only [List.nodup_cons, List.mem_cons, not_or]
      exact ⟨⟨fun e => hhk e.symm, fun e => hhv e.symm, fh.2⟩, ⟨hkv, fun e => (fr xk e).1 rfl⟩, fun e => (fr xv e).2.1 rfl, gr.nodup⟩
    · intro a ha b hb
      simp only [List.mem_cons] at hb
      rcases hb with rfl | rfl | rfl | hb
      · exact hlh a ha
      · exact (fl a ha).1
      · exact (fl a ha).2.1
      · rintro rfl
        exact (fr a hb).2.2.1 ha
  · intro x hx
    simp only [BT.hs, List.mem_append, List.mem_cons] at hx
    rcases hx with hx | rfl | rfl | rfl | hx
    · exact (fl x hx).2.2
    · exact hRh
    · exact hk
    · exact hv2
    · exact (fr x hx).2.2.2
  · intro x hx
    simp only [BT.hs, List.mem_append, List.mem_cons, not_or] at hx
    obtain ⟨x1, x2, x3, x4, x5⟩ := hx
    rw [updR_other x2, gr.old x x5, gl.old x x1, updR_other x4, updR_other x3]
  · intro x hx
    simp only [BT.hs, List.mem_append, List.mem_cons] at hx
    rcases hx with hx | rfl | rfl | rfl | hx
    · exact gl.nz x hx
    · exact h0
    · exact k0
    · exact v0
    · exact gr.nz x hx
/-- a slice whose cells are these, in a block off F -/
def CellsF (w : World) (F : Nat → Prop) (A : Option Addr) (vs : List Value) : Prop :=
  vs = [] ∨ ∃ b o, A = some ⟨b, o, none⟩ ∧ b < w.heap.size ∧ ¬ F b ∧ ∀ j u, vs[j]? = some u → w.cell? ⟨b, o + j, none⟩ = some u
section
variable {w w' : World} {F F' : Nat → Prop} {A : Option Addr} {vs : List Value}
theorem CellsF.turn (h : CellsF w F A vs) (ht : Turn w F w' F') : CellsF w' F' A vs := by
  rcases h with h | ⟨b, o, h1, h2, h3, h4⟩
  · exact .inl h
  · exact .inr ⟨b, o, h1, Nat.lt_of_lt_of_le h2 ht.size, ht.not h2 h3, fun j u hu => ht.cell (h4 j u hu) h3⟩
theorem CellsF.at' (h : CellsF w F A vs) {k : Nat} {u : Value} (hk : vs[k]? = some u) : ∃ b o, A = some ⟨b, o, none⟩ ∧ w.cell? ⟨b, o + k, none⟩ = some u := by
  rcases h with rfl | ⟨b, o, h1, h2, h3, h4⟩
  · simp at hk
  · exact ⟨b, o, h1, h4 k u hk⟩
theorem CellsF.take (h : CellsF w F A vs) (k : Nat) : CellsF w F A (vs.take k) := by
  rcases h with rfl | ⟨b, o, h1, h2, h3, h4⟩
  · left; simp
  · refine .inr ⟨b, o, h1, h2, h3, fun j u hu => h4 j u ?_⟩
    rw [List.getElem?_take] at hu
    split at hu
    · exact hu
    · cases hu
theorem CellsF.pairs {l : List Pr} (h : CellsF w F A (prsV l)) {k : Nat} (hk : k < l.length) : ∃ b o, A = some ⟨b, o, none⟩ ∧ w.cell? ⟨b, o + k * 2, none⟩ = some (.string l[k].1) ∧ w.cell? ⟨b, o + k * 2 + 1, none⟩ = some (.string l[k].2) := by
  obtain ⟨h1, h2⟩ := prsV_at l k hk
  obtain ⟨b, o, e, hc⟩ := h.at' h1
  obtain ⟨b', o', e', hc'⟩ := h.at' h2
  rw [e] at e'
  cases e'
  exact ⟨b, o, e, hc, by rw [Nat.add_assoc]; exact hc'⟩
theorem CellsF.of_prs {B : Nat} {l : List Pr} (h : Prs w B A l) (hB : B ≤ w.heap.size) (hF : ∀ b, F b → B ≤ b) : CellsF w F A (prsV l) := by
  rcases h with rfl | ⟨b, o, h1, h2, h3⟩
  · exact .inl rfl
  · exact .inr ⟨b, o, h1, by omega, fun hf => by have := hF b hf; omega, h3⟩
end
/-- 'l[k:]' of pairs -/
theorem slice_fromF (A : Option Addr) (n k c : Nat) (hk : k ≤ n) (hc : n ≤ c) : ∃ A', (∀ W, (Instr.sliceAt 22 (.slice A n c) (some (.int .i64 (k : Nat))) none none).run Tryz.prog W = .ok (.slice A' (n - k) (c - k)) W) ∧ (∀ W, (Instr.slice 22 (.slice A n c) (some (.int .i64 (k : Nat))) none none).run Tryz.prog W = .ok (.slice A' (n - k) (c - k)) W) ∧
    (∀ (W : World) (F : Nat → Prop) (l : List Pr), l.length = n → CellsF W F A (prsV l) → CellsF W F A' (prsV (l.drop k))) ∧ ((A = none → c = 0) → A' = none → c - k = 0) := by
  have e2 : ∀ W, (Instr.slice 22 (.slice A n c) (some (.int .i64 (k : Nat))) none none).run Tryz.prog W = .ok (.slice (if c = k then A else A.map (·.add (k * 2))) (n - k) (c - k)) W := fun W => by
    rw [run_slice_l W 22 A n c (by kernel_rfl) .i64 (k : Nat) (by omega) (by omega)]
    rw [show Tryz.prog.elem 22 = 46 by kernel_rfl, show (sizeOf 46).run Tryz.prog W = .ok 2 W by kernel_rfl]
    simp [sliced, Result.andThen]
  refine ⟨if c = k then A else A.map (·.add (k * 2)), fun W => ?_, e2, fun W F l hl h => ?_, fun hA h => ?_⟩
  · rw [run_sliceAt_slice W 22 _ _ _ _ (by kernel_rfl)]
    exact e2 W
  · by_cases he : k = l.length
    · subst he; left; rw [List.drop_length]; rfl
    · rcases h with h | ⟨b, o, rfl, hb, hF, hcell⟩
      · have : l = [] := by
          cases l with
          | nil => rfl
          | cons p l => simp [prsV] at h
        subst this
        left; simp [prsV]
      · rw [if_neg (by omega)]
        refine .inr ⟨b, o + k * 2, ?_, hb, hF, fun j u hu => ?_⟩
        · show some ((⟨b, o, none⟩ : Addr).add (k * 2)) = _
          unfold Addr.add; split <;> simp_all
        · rw [Nat.add_assoc]
          refine hcell _ _ ?_
          rw [prsV_drop, List.getElem?_drop] at hu
          exact hu
  · by_cases he : c = k
    · omega
    · rw [if_neg he] at h
      cases A with
      | none => have := hA rfl; omega
      | some a => cases h
theorem StoreIs.more {w : World} {s : Nat} {F : Nat → Prop} {R : Nat → Option (List Nat)} {H : List Nat} {P P' q most last G G' : Nat} (h : StoreIs w s F R H P q most last G) (hP : P ≤ P') (hG : G ≤ G') : StoreIs w s F R H P' q most last G' := by
  obtain ⟨a, ha, t, v, L, mem, sl, Fh, h⟩ := h
  exact ⟨a, ha, t, v, L, mem, sl, Fh, { h with pages := Nat.le_trans h.pages hP, gens := fun x hx => Nat.le_trans (h.gens x hx) hG }⟩
def intsV (zs : List Int) : List Value := zs.map fun z => .int .i64 z
theorem pgsN_le {n : Nat} (h : n ≤ 128) : pgsN n ≤ 3 := by unfold pgsN; split <;> omega
theorem words_le {b : ByteArray} (h : b.size ≤ 1000) : (Tx.wordsL b.data.toList).length ≤ 126 := by
  rw [Tx.wordsL_length, Tx.size_list]
  unfold Tx.many
  omega
end Go.Proofs.YtjpmlneihbckpaaGreatDoor
/- Sorted lists rise; what making a tree keeps: plain law. -/
set_option linter.unusedVariables false
set_option linter.unusedSimpArgs false
namespace Go.Proofs.YtjpmlneihbckpaaGreatDoor
open Go.RowKit Go.Shelf
theorem rank_split {k : ByteArray} : ∀ {l : List Pr}, Rising l → (∀ q ∈ l.take (rankL l k), Tx.cmp q.1 k < 0) ∧ (∀ q ∈ l.drop (rankL l k), ¬ Tx.cmp q.1 k < 0)
  | [], _ => ⟨fun q hq => by simp at hq, fun q hq => by simp at hq⟩
  | p :: l, h => by
    have h' := List.pairwise_cons.1 h
    rw [rankL_cons]
    by_cases hp : Tx.cmp p.1 k < 0
    · rw [if_pos hp, List.take_succ_cons, List.drop_succ_cons]
      obtain ⟨h1, h2⟩ := rank_split (k := k) h'.2
      refine ⟨fun q hq => ?_, h2⟩
      rcases List.mem_cons.1 hq with rfl | hq
      · exact hp
      · exact h1 q hq
    · have hall : ∀ q ∈ l, ¬ Tx.cmp q.1 k < 0 := fun q hq e => hp (cmp_lt_trans (h'.1 q hq) e)
      rw [if_neg hp, rankL_none hall]
      refine ⟨fun q hq => by simp at hq, fun q hq => ?_⟩
      rcases List.mem_cons.1 hq with rfl | hq
      · exact hp
      · exact hall q hq
theorem putL_rising {l : List Pr} (h : Rising l) (p : Pr) : Rising (putL l p) := by
  obtain ⟨h1, h2⟩ := rank_split (k := p.1) h
  have hle := rankL_le l p.1
  unfold putL
  generalize rankL l p.1 = n at *
  have hgt : ∀ q ∈ l.drop (if (l[n]?).map (·.1) = some p.1 then n + 1 else n), Tx.cmp p.1 q.1 < 0 := by
    intro q hq
    have hsw := cmp_swap p.1 q.1
    have hdr : Rising (l.drop n) := List.Pairwise.sublist (List.drop_sublist n l) h
    by_cases hlt : n < l.length
    · have hd := List.drop_eq_getElem_cons hlt
      rw [List.getElem?_eq_getElem hlt] at hq
      simp only [Option.map_some, Option.some.injEq] at hq
      rw [hd] at hdr h2
      have hdr' := List.pairwise_cons.1 hdr
      by_cases he : l[n].1 = p.1
      · rw [if_pos he] at hq
        have := hdr'.1 q hq
        rw [he] at this
        exact this
      · rw [if_neg he, hd] at hq
        have h3 := h2 q hq
        have hn3 := h2 l[n] List.mem_cons_self
        rcases List.mem_cons.1 hq with rfl | hq
        · have : Tx.cmp l[n].1 p.1 ≠ 0 := fun e => he (cmp_zero.1 e)
          omega
        · have h4 := hdr'.1 q hq
          have : Tx.cmp l[n].1 p.1 ≠ 0 := fun e => he (cmp_zero.1 e)
          have h5 := cmp_swap p.1 l[n].1
          exact cmp_lt_trans (b := l[n].1) (by omega) h4
    · rw [List.getElem?_eq_none (by omega)] at hq
      simp only [Option.map_none, reduceCtorEq, if_false] at hq
      rw [List.drop_eq_nil_of_le (by omega)] at hq
      simp at hq
  unfold Rising
  rw [List.pairwise_append, List.pairwise_cons]
  refine ⟨List.Pairwise.sublist (List.take_sublist n l) h, ⟨hgt, List.Pairwise.sublist (List.drop_sublist _ l) h⟩, fun a ha b hb => ?_⟩
  have h3 := h1 a ha
  rcases List.mem_cons.1 hb with rfl | hb
  · exact h3
  · exact cmp_lt_trans h3 (hgt b hb)
theorem sortedL_rising (l : List Pr) : Rising (sortedL l) := by
  unfold sortedL
  suffices h : ∀ (l m : List Pr), Rising m → Rising (l.foldl putL m) from h l [] List.Pairwise.nil
  intro l
  induction l with
  | nil => exact fun m h => h
  | cons p l ih => exact fun m h => ih (putL m p) (putL_rising h p)
theorem BT.hs_short {R : Nat → Option (List Nat)} : ∀ (t : BT), t.At R → ∀ x ∈ t.hs, ∀ ws, R x = some ws → ws.length ≤ 200
  | .nil, _, x, hx, ws, hw => by simp [BT.hs] at hx
  | .node h kh vh m k v l r, ht, x, hx, ws, hw => by
    obtain ⟨h1, h2, h3, h4, h5, h6, hl, hr⟩ := ht
    simp only [BT.hs, List.mem_append, List.mem_cons] at hx
    rcases hx with hx | rfl | rfl | rfl | hx
    · exact BT.hs_short l hl x hx ws hw
    · rw [h2] at hw; cases hw; exact (by simp [Nd.ws] : (Nd.ws ⟨kh, vh, l.root, r.root, m, l.size + 1 + r.size⟩).length ≤ 200)
    · rw [h3] at hw; cases hw; have := words_le h5; omega
    · rw [h4] at hw; cases hw; have := words_le h6; omega
    · exact BT.hs_short r hr x hx ws hw
theorem GrowOut.short {R R' : Nat → Option (List Nat)} {t : BT} (g : GrowOut R R' t) (h : Short R) : Short R' := fun x ws hx => by
  by_cases hm : x ∈ t.hs
  · exact BT.hs_short t g.at' x hm ws hx
  · rw [g.old x hm] at hx; exact h x ws hx
theorem GrowOut.zero {R R' : Nat → Option (List Nat)} {t : BT} (g : GrowOut R R' t) (h : R 0 = none) : R' 0 = none := by
  rw [g.old 0 (fun e => g.nz 0 e rfl), h]
theorem Ints_off {w w' : World} {A : Option Addr} {vs : List Value} {F : Nat → Prop} {B : Nat} (h : CellsF w (fun b => B ≤ b) A vs) (hb : Below B w w') (hF : ∀ b, F b → B ≤ b) (hs : w.heap.size ≤ w'.heap.size) : CellsF w' F A vs := by
  rcases h with h | ⟨b, o, h1, h2, h3, h4⟩
  · exact .inl h
  · have h5 : b < B := Nat.lt_of_not_le h3
    exact .inr ⟨b, o, h1, by omega, fun hf => by have := hF b hf; omega, fun j u hu => (hb.cell (p := ⟨b, o + j, none⟩) h5).trans (h4 j u hu)⟩
end Go.Proofs.YtjpmlneihbckpaaGreatDoor
/- What the walk layer tells of a right tree, in its list's words. -/
set_option linter.unusedVariables false
set_option linter.unusedSimpArgs false
namespace Go.Proofs.YtjpmlneihbckpaaGreatDoor
open Go.RowKit Go.Shelf
/-- a right tree of pairs in a store that is only read -/
structure TreeR (N : Nat) (w : World) (s : Nat) (R : Nat → Option (List Nat)) (n : Nat) (t : BT) (l : List Pr) : Prop where
  rd : Rd N w s R n
  sh : Short R
  z : R 0 = none
  at' : t.At R
  prs : t.prs = l
  ris : Rising l
  nod : t.hs.Nodup
  sz : 8 * t.size ≤ n
def hasK (l : List Pr) (k : ByteArray) : Prop := (l[rankL l k]?).map (·.1) = some k
instance (l : List Pr) (k : ByteArray) : Decidable (hasK l k) := by unfold hasK; infer_instance
theorem hasK_lt {l : List Pr} {k : ByteArray} (h : hasK l k) : ∃ hl : rankL l k < l.length, l[rankL l k].1 = k := by
  unfold hasK at h
  by_cases hl : rankL l k < l.length
  · rw [List.getElem?_eq_getElem hl] at h
    exact ⟨hl, by simpa using h⟩
  · rw [List.getElem?_eq_none (by omega)] at h
    cases h
section
variable {w w' : World} {s N : Nat} {R : Nat → Option (List Nat)} {n : Nat} {t : BT} {l : List Pr}
theorem TreeR.below (h : TreeR N w s R n t l) (hb : Below w.heap.size w w') : TreeR N w' s R n t l := { h with rd := h.rd.below hb }
theorem TreeR.len (h : TreeR N w s R n t l) : t.size = l.length := by rw [← h.prs, BT.prs_len]
theorem TreeR.nodes_len (h : TreeR N w s R n t l) : t.nodes.length = l.length := by rw [BT.nodes_len, h.len]
theorem TreeR.le (h : TreeR N w s R n t l) : l.length ≤ 32768 := by
  have h1 := h.rd.le
  have h2 := h.sz
  have h3 := h.len
  omega
theorem TreeR.node_nz (h : TreeR N w s R n t l) {x : Nat} (hx : x ∈ t.nodes) : x ≠ 0 := fun e => by
  obtain ⟨nd, hnd⟩ := BT.nodes_six t h.at' x hx
  rw [e, h.z] at hnd
  cases hnd
theorem TreeR.root_lt (h : TreeR N w s R n t l) : t.root < 18446744073709551616 := BT.root_lt h.at' h.rd
theorem TreeR.node_lt (h : TreeR N w s R n t l) {x : Nat} (hx : x ∈ t.nodes) : x < 18446744073709551616 := by
  obtain ⟨nd, hnd⟩ := BT.nodes_six t h.at' x hx
  exact (h.rd.u64 hnd).1
theorem TreeR.rankR (h : TreeR N w s R n t l) (k : ByteArray) : Go.Proofs.YtjpmlneihbckpaaGreatDoor.rankR R n t.root k = (rankL l k : Nat) := by
  have h1 := h.rd.le
  have h2 := h.sz
  have := (BT.findR_at h.at' h.z (n := n) (by omega) (by omega) k).2
  rw [this, BT.rank_list k t (by rw [h.prs]; exact h.ris), h.prs]
theorem TreeR.findR (h : TreeR N w s R n t l) (k : ByteArray) : Go.Proofs.YtjpmlneihbckpaaGreatDoor.findR R n t.root k = if hasK l k then (t.nodes[rankL l k]?).getD 0 else 0 := by
  have h1 := h.rd.le
  have h2 := h.sz
  have := (BT.findR_at h.at' h.z (n := n) (by omega) (by omega) k).1
  rw [this, BT.find_list k t, BT.rank_list k t (by rw [h.prs]; exact h.ris), h.prs]
  rfl
theorem tpair_at (h : TreeR N w s R n t l) {i : Nat} (hi : i < l.length) (hi2 : i < t.nodes.length) : Calls Tryz.prog 61 #[.pointer (some ⟨s, 0, none⟩), .int .u64 (t.nodes[i] : Nat)] w fun e w' => e = .returned (.tuple #[.agg #[.string l[i].1, .string l[i].2], .int .i64 0]) ∧ Below w.heap.size w w' := by
  have hi3 : i < t.ents.length := by have := congrArg List.length (BT.ents_nodes t); rw [List.length_map] at this; omega
  have e1 : t.nodes[i] = t.ents[i].h := by
    have : t.nodes[i]? = some (t.ents[i].h) := by rw [← BT.ents_nodes, List.getElem?_map, List.getElem?_eq_getElem hi3]; rfl
    rw [List.getElem?_eq_getElem hi2] at this
    exact Option.some.inj this
  have e2 : l[i] = (t.ents[i].k, t.ents[i].v) := by
    have : l[i]? = some (t.ents[i].k, t.ents[i].v) := by rw [← h.prs, ← BT.ents_prs, List.getElem?_map, List.getElem?_eq_getElem hi3]; rfl
    rw [List.getElem?_eq_getElem hi] at this
    exact Option.some.inj this
  have h1 := h.rd.le
  have h2 := h.sz
  obtain ⟨a1, a2, a3, a4, a5, _⟩ := BT.ents_at t h.at' (by omega) t.ents[i] (List.getElem_mem hi3)
  obtain ⟨p1, p2⟩ := En.At.pair a1 a2 a3 a4 a5
  have hp := pair_at h.rd h.sh t.nodes[i] (h.node_lt (List.getElem_mem hi2))
  rw [e1, p1, p2] at hp
  rw [e1, e2]
  exact hp
theorem tsize_at (h : TreeR N w s R n t l) : Calls Tryz.prog 23 #[.pointer (some ⟨s, 0, none⟩), .int .u64 (t.root : Nat)] w fun e w' => e = .returned (.int .i64 (l.length : Nat)) ∧ Below w.heap.size w w' := by
  have h1 := h.rd.le
  have h2 := h.sz
  have hf := size_at h.rd t.root h.root_lt
  rw [BT.tsize_at h.at' h.z (by omega), h.len] at hf
  exact hf
theorem tcheck_at (h : TreeR N w s R n t l) : Calls Tryz.prog 54 #[.pointer (some ⟨s, 0, none⟩), .int .u64 (t.root : Nat)] w fun e w' => e = .returned (.int .i64 0) ∧ Below w.heap.size w w' := by
  have h1 := h.rd.le
  have h2 := h.sz
  have hf := check_at h.rd h.sh t.root h.root_lt
  rw [BT.check_at h.at' (by rw [h.prs]; exact h.ris) h.nod (n := n) (by omega) (by omega)] at hf
  exact hf
theorem tlist_at (h : TreeR N w s R n t l) : Calls Tryz.prog 30 #[.pointer (some ⟨s, 0, none⟩), .int .u64 (t.root : Nat)] w fun e w' => ∃ v, e = .returned v ∧ w'.ownsRow w.heap.size 32 1 v l.length (hsV t.nodes) ∧ Below w.heap.size w w' := by
  have h1 := h.rd.le
  have h2 := h.sz
  have hf := list_at h.rd t.root h.root_lt
  rw [BT.inR_at h.at' (n := n) (by omega), h.nodes_len] at hf
  exact hf
end
end Go.Proofs.YtjpmlneihbckpaaGreatDoor
/- Words of the laws; a key of a tree's own. -/
set_option linter.unusedVariables false
set_option linter.unusedSimpArgs false
namespace Go.Proofs.YtjpmlneihbckpaaGreatDoor
open Go.RowKit Go.Shelf
theorem sized_of {l : List Pr} (h : longL l = false) : ∀ p ∈ l, p.1.size ≤ 1000 ∧ p.2.size ≤ 1000 := by
  intro p hp
  unfold longL at h
  rw [List.any_eq_false] at h
  have := h p hp
  simp at this
  exact this
theorem CellsF.prs {w : World} {F : Nat → Prop} {A : Option Addr} {l : List Pr} (h : CellsF w F A (prsV l)) : Prs w w.heap.size A l := by
  rcases h with h | ⟨b, o, h1, h2, h3, h4⟩
  · left
    cases l with
    | nil => rfl
    | cons p l => simp [prsV] at h
  · exact .inr ⟨b, o, h1, h2, h4⟩
def ILaw (w : World) (A : Option Addr) (l : List Pr) : Prop := CellsF w (fun b => w.heap.size ≤ b) A (prsV l) ∧ Sized l ∧ l.length ≤ 9223372036854775807
def IInts (w : World) (A : Option Addr) (zs : List Int) : Prop := CellsF w (fun b => w.heap.size ≤ b) A (intsV zs) ∧ zs.length ≤ 9223372036854775807 ∧ ∀ z ∈ zs, -9223372036854775808 ≤ z ∧ z ≤ 9223372036854775807
abbrev TrueB (w : World) : Ending → World → Prop := fun e w' => e = .returned (.bool true) ∧ Below w.heap.size w w'
theorem rank_own {l : List Pr} (h : Rising l) {i : Nat} (hi : i < l.length) : rankL l l[i].1 = i ∧ hasK l l[i].1 := by
  have hr : rankL l l[i].1 = i := by
    obtain ⟨h1, h2⟩ := rank_split (k := l[i].1) h
    have hle := rankL_le l l[i].1
    have hself : Tx.cmp l[i].1 l[i].1 = 0 := cmp_zero.2 rfl
    by_cases c1 : i < rankL l l[i].1
    · have := h1 l[i] (List.mem_take_iff_getElem.2 ⟨i, by omega, rfl⟩)
      omega
    · by_cases c2 : rankL l l[i].1 < i
      · have h3 := h2 (l[rankL l l[i].1]'(by omega)) (by rw [List.drop_eq_getElem_cons (by omega)]; exact List.mem_cons_self)
        have h4 := List.pairwise_iff_getElem.1 h _ _ (by omega) hi c2
        exact absurd h4 h3
      · omega
  refine ⟨hr, ?_⟩
  unfold hasK
  rw [hr, List.getElem?_eq_getElem hi]
  rfl
end Go.Proofs.YtjpmlneihbckpaaGreatDoor
/- What a law's row gives of the listed table; slices of pairs and of ints that come in. -/
set_option linter.unusedVariables false
set_option linter.unusedSimpArgs false
namespace Go.Proofs.YtjpmlneihbckpaaGreatDoor
open Go.ChangeShapes Go.WideShapes Go.ChangeAt Go.WideMaps Go.WideElems Go.RowKit Go.Deep
theorem own : ownKnob Tryz.prog.godebug = none := by kernel_rfl
theorem laidOut : laidOutB Tryz.prog = true := by kernel_rfl
theorem gTab : Tryz.prog.globalNamed "math/bits.deBruijn64tab" = some 1 := by kernel_rfl
theorem tTab : (Tryz.prog.globals[1]?).map (·.type) = some 248 := by kernel_rfl
abbrev laidL : List (String × DataW Unit) := [("math/bits.deBruijn64tab", Rows.laid_math_bits_deBruijn64tab)]
theorem laid_list : (Rows.laid_math_bits_deBruijn64tab : DataW Unit) = .agg (Lib.deBruijn64tab.map fun n => .lit (.int .u8 (n : Nat))) := rfl
/-- the door's own heap meets the condition -/
theorem door_met (os : Os) (args : Array Value) : laidMetH Tryz.prog laidL ((World.doorLaid Tryz.prog 400 os).forCall (fun _ _ => 0) ⟨#[], args, []⟩).memory :=
  laidMetH_of_parts3 (fuel := 8) (laidMet_of_run' 8 (by kernel_rfl) (by kernel_rfl)) (by kernel_rfl) (by kernel_rfl)
theorem of_laid {W : World} (h : laidMetH Tryz.prog laidL W) : Tab W := by
  rw [MakeChecks.laidMetH_plain _ _ _ (by kernel_rfl)] at h
  obtain ⟨ps, ⟨g0, t0, cs0, f0, p0, q0, hg0, ht0, hv0, hd0, _⟩, _⟩ := h
  obtain rfl := Option.some.inj (gTab.symm.trans hg0)
  obtain rfl := Option.some.inj (tTab.symm.trans ht0)
  obtain ⟨xs, m1, rfl, hx1, hlen, hn, hel⟩ := DataW.trod_array Tryz.underlying248 hd0
  have c5 : Tryz.prog.cellsOf 5 = 1 := by kernel_rfl
  simp only [Prod.mk.injEq] at hx1
  rw [laid_list] at hx1
  have hmap : xs.map (·.1) = Lib.deBruijn64tab.map fun n => DataW.lit (Lit.int .u8 (n : Nat)) := by
    have := hx1.1
    simp only [DataW.agg.injEq] at this
    exact this.symm
  intro j hj
  have hj64 : j < 64 := hj
  have hjx : j < xs.length := by omega
  have h0 := hel j hj64
  rw [List.getElem?_eq_getElem hjx, c5, Nat.mul_one] at h0
  obtain ⟨k, e1, e2, _⟩ := DataW.trod_int Tryz.underlying5 h0
  have h3 : (xs.map (·.1))[j]? = some (.lit (.int .u8 (Lib.deBruijn64tab.getD j 0 : Nat))) := by
    rw [hmap, List.getElem?_map, List.getElem?_eq_getElem hj]
    simp [List.getD_eq_getElem?_getD, List.getElem?_eq_getElem hj]
  rw [List.getElem?_map, List.getElem?_eq_getElem hjx, e2] at h3
  simp only [Option.map_some, Option.some.injEq, DataW.lit.injEq, Lit.int.injEq, true_and] at h3
  subst h3
  have hc := World.var?_cell hg0 hv0 j
  rw [hc]
  have hd : cs0.toList[j]? = some (.int .u8 (Lib.deBruijn64tab.getD j 0 : Nat)) := by
    have h5 : ((cs0.toList.drop j).take 1)[0]? = some (.int .u8 (Lib.deBruijn64tab.getD j 0 : Nat)) := by rw [e1]; rfl
    rw [List.getElem?_take, if_pos (by omega), List.getElem?_drop, Nat.add_zero] at h5
    exact h5
  simpa using hd
end Go.Proofs.YtjpmlneihbckpaaGreatDoor
/- Slices of pairs, of ints, as a law's row opens them. -/
set_option linter.unusedVariables false
set_option linter.unusedSimpArgs false
namespace Go.Proofs.YtjpmlneihbckpaaGreatDoor
open Go.ChangeShapes Go.WideShapes Go.ChangeAt Go.WideMaps Go.WideElems Go.RowKit Go.Deep
theorem int_bound {n : Int} (h : (Lit.int .i64 n).wf = true) : -9223372036854775808 ≤ n ∧ n ≤ 9223372036854775807 := by
  simpa [Lit.wf, IntKind.min, IntKind.max, IntKind.signed, IntKind.bits] using h
theorem prsV_inv : ∀ {l : List Pr} {j : Nat} {u : Value}, (prsV l)[j]? = some u → ∃ (i : Nat) (hi : i < l.length), (j = i * 2 ∧ u = .string l[i].1) ∨ (j = i * 2 + 1 ∧ u = .string l[i].2)
  | [], j, u, h => by simp [prsV] at h
  | p :: l, 0, u, h => by simp [prsV] at h; exact ⟨0, by simp, .inl ⟨rfl, h.symm⟩⟩
  | p :: l, 1, u, h => by simp [prsV] at h; exact ⟨0, by simp, .inr ⟨rfl, h.symm⟩⟩
  | p :: l, j + 2, u, h => by
    obtain ⟨i, hi, hh⟩ := prsV_inv (l := l) (j := j) (u := u) (by simpa [prsV] using h)
    refine ⟨i + 1, by simpa using hi, ?_⟩
    rcases hh with ⟨h1, h2⟩ | ⟨h1, h2⟩
    · exact .inl ⟨by omega, h2⟩
    · exact .inr ⟨by omega, h2⟩
theorem addr_add (b o j : Nat) : (⟨b, o, none⟩ : Addr).add j = ⟨b, o + j, none⟩ := by unfold Addr.add; split <;> simp_all
section
variable {H : Type} {enc : TypeId × Value → H} {w : World} {base : Nat} {held : Bool}
theorem open_prs {fuel : Nat} {cs : List Value} {x : DataW H × List MemPlace} (h : DataW.trod enc Tryz.prog w base (fun _ => true) held fuel 22 cs = some x) : ∃ A len cap l, cs = [.slice A len cap] ∧ len = l.length ∧ ILaw w A l := by
  rcases open_slice_pairs Tryz.underlying22 Tryz.underlying46 (by kernel_rfl) rfl rfl (by kernel_rfl) (by kernel_rfl) h with ⟨hcs, _⟩ | ⟨a, len, cap, m, n, V0, V1, D0, D1, P0, P1, hcs, hb, hl, hm, hmm, _, hx⟩
  · exact ⟨none, 0, 0, [], hcs, rfl, .inl rfl, fun p hp => by simp at hp, by simp⟩
  · have hmc : m = cap := by simpa using hmm
    subst hmc
    have hS : ∀ i, ∃ p : Pr, i < m → V0 i = .string p.1 ∧ V1 i = .string p.2 ∧ p.1.size ≤ maxLen ∧ p.2.size ≤ maxLen := fun i => by
      by_cases hi : i < m
      · obtain ⟨h1, h2, h3, h4⟩ := hx i hi
        obtain ⟨s0, e0, _, z0⟩ := DataW.trod_string Tryz.underlying9 h3
        obtain ⟨s1, e1, _, z1⟩ := DataW.trod_string Tryz.underlying9 h4
        exact ⟨(s0, s1), fun _ => ⟨by simpa using e0, by simpa using e1, z0, z1⟩⟩
      · exact ⟨(⟨#[]⟩, ⟨#[]⟩), fun hh => absurd hh hi⟩
    obtain ⟨f, hf⟩ := Classical.axiomOfChoice hS
    have hll : ((List.range len).map f).length = len := by simp
    unfold maxLen at hm
    refine ⟨some a, len, m, (List.range len).map f, hcs, hll.symm, ?_, ?_, by rw [hll]; omega⟩
    · by_cases h0 : len = 0
      · subst h0; exact .inl rfl
      · obtain ⟨b, off, spot⟩ := a
        have hc0 := (hx 0 (by omega)).1
        have hspot : spot = none := by simpa [Addr.add] using World.cell?_spot hc0
        subst hspot
        have hbl := World.block_lt_of_cell? _ _ hc0
        rw [addr_add] at hbl
        refine .inr ⟨b, off, rfl, hbl, by show ¬ w.heap.size ≤ b; simp only at hbl; omega, fun j u hu => ?_⟩
        obtain ⟨i, hi, hh⟩ := prsV_inv hu
        have hil : i < len := by omega
        obtain ⟨c0, c1, _, _⟩ := hx i (by omega)
        obtain ⟨g0, g1, _, _⟩ := hf i (by omega)
        rw [addr_add] at c0 c1
        have hget : ((List.range len).map f)[i] = f i := by simp
        rcases hh with ⟨rfl, rfl⟩ | ⟨rfl, rfl⟩
        · rw [c0, g0, hget]
        · rw [c1, g1, hget]
    · intro p hp
      obtain ⟨i, hi, rfl⟩ := List.mem_map.1 hp
      have hil : i < len := by simpa using hi
      obtain ⟨_, _, z0, z1⟩ := hf i (by omega)
      unfold maxLen at z0 z1
      exact ⟨z0, z1⟩
theorem open_zs {fuel : Nat} {cs : List Value} {x : DataW H × List MemPlace} (h : DataW.trod enc Tryz.prog w base (fun _ => true) held fuel 60 cs = some x) : ∃ A len cap zs, cs = [.slice A len cap] ∧ len = zs.length ∧ IInts w A zs := by
  rcases open_ints Tryz.underlying60 Tryz.underlying3 (by kernel_rfl) h with ⟨hcs, _⟩ | ⟨a, len, cap, zs, hcs, hb, hl, hm, hz, _, hc, hwf⟩
  · exact ⟨none, 0, 0, [], hcs, rfl, .inl rfl, by simp, fun z hz => by simp at hz⟩
  · have hzc : zs.length = cap := by simpa using hz
    unfold maxLen at hm
    have hll : (zs.take len).length = len := by simp; omega
    refine ⟨some a, len, cap, zs.take len, hcs, hll.symm, ?_, by rw [hll]; omega, fun z hz => int_bound (hwf z (List.mem_of_mem_take hz))⟩
    by_cases h0 : len = 0
    · subst h0; exact .inl rfl
    · obtain ⟨b, off, spot⟩ := a
      have hc0 := hc 0 (by omega)
      have hspot : spot = none := by simpa [Addr.add] using World.cell?_spot hc0
      subst hspot
      have hbl := World.block_lt_of_cell? _ _ hc0
      rw [addr_add] at hbl
      refine .inr ⟨b, off, rfl, hbl, by show ¬ w.heap.size ≤ b; simp only at hbl; omega, fun j u hu => ?_⟩
      rw [intsV, List.getElem?_map] at hu
      by_cases hj : j < (zs.take len).length
      · have hj2 : j < zs.length := by omega
        have h1 := hc j hj2
        rw [addr_add] at h1
        rw [h1]
        rw [List.getElem?_eq_getElem hj, Option.map_some, Option.some.injEq] at hu
        rw [← hu, List.getElem_take]
        simp [List.getD_eq_getElem?_getD, List.getElem?_eq_getElem hj2]
      · rw [List.getElem?_eq_none (by omega)] at hu
        cases hu
end
end Go.Proofs.YtjpmlneihbckpaaGreatDoor
/- A node by value, as a law's row opens it; a handle. -/
set_option linter.unusedVariables false
set_option linter.unusedSimpArgs false
namespace Go.Proofs.YtjpmlneihbckpaaGreatDoor
open Go.ChangeShapes Go.WideShapes Go.ChangeAt Go.WideMaps Go.WideElems Go.RowKit Go.Deep
theorem u64_bound {n : Int} (h : (Lit.int .u64 n).wf = true) : 0 ≤ n ∧ n ≤ 18446744073709551615 := by
  simpa [Lit.wf, IntKind.min, IntKind.max, IntKind.signed, IntKind.bits] using h
theorem nd_under : ∃ fs : Array Field, Tryz.prog.underlying 53 = some (.struct fs) ∧ oneCellFields Tryz.prog fs = true ∧ fs.size = 6 ∧ ∀ i, i < 6 → ∃ f, fs[i]? = some f ∧ Tryz.prog.underlying f.type = some (.int .u64) := by
  refine ⟨_, Tryz.underlying53, by kernel_rfl, rfl, fun i hi => ?_⟩
  match i, hi with
  | 0, _ => exact ⟨_, rfl, Tryz.underlying32⟩
  | 1, _ => exact ⟨_, rfl, Tryz.underlying32⟩
  | 2, _ => exact ⟨_, rfl, Tryz.underlying32⟩
  | 3, _ => exact ⟨_, rfl, Tryz.underlying32⟩
  | 4, _ => exact ⟨_, rfl, Tryz.underlying31⟩
  | 5, _ => exact ⟨_, rfl, Tryz.underlying31⟩
  | i + 6, h => omega
section
variable {H : Type} {enc : TypeId × Value → H} {w : World} {held : Bool} {v : Value} {d : DataW H} {p : List MemPlace}
set_option maxRecDepth 100000 in
theorem open_nd {base : Nat} (hv : Value.okWide Tryz.prog w .any base 53 v) (h : DataW.Trod enc Tryz.prog w 0 (fun _ => true) held 53 v d p) : ∃ x : Nd, v = x.v ∧ x.Ok := by
  obtain ⟨fs, hu, hone, h6, hfs⟩ := nd_under
  obtain ⟨cs, rfl, hsz⟩ := okWide_struct hu hv
  have hc6 : Tryz.prog.cellsOf 53 = 6 := by kernel_rfl
  obtain ⟨l⟩ := cs
  match l, hsz.trans hc6 with
  | [c0, c1, c2, c3, c4, c5], _ =>
    obtain ⟨fuel, hf⟩ := h
    obtain ⟨xs, n, _, hx, _, hlen, hg⟩ := DataW.trod_struct hu hf
    have each : ∀ i, (hi : i < 6) → ∃ z : Nat, ((([c0, c1, c2, c3, c4, c5] : List Value).drop i).take 1) = [Value.int .u64 (z : Nat)] ∧ z < 18446744073709551616 := fun i hi => by
      obtain ⟨f, hfi, hfu⟩ := hfs i hi
      obtain ⟨o1, k1⟩ := hone_of hone i f hfi
      have h1 := hg i f hfi
      have hxl : i < xs.length := by omega
      rw [o1, k1, List.getElem?_eq_getElem hxl] at h1
      simp only [Value.cells] at h1
      obtain ⟨m, e1, _, hwf⟩ := DataW.trod_int hfu h1
      obtain ⟨b1, b2⟩ := u64_bound hwf
      obtain ⟨z, rfl⟩ := Int.eq_ofNat_of_zero_le b1
      exact ⟨z, e1, by omega⟩
    obtain ⟨z0, e0, b0⟩ := each 0 (by omega)
    obtain ⟨z1, e1, b1⟩ := each 1 (by omega)
    obtain ⟨z2, e2, b2⟩ := each 2 (by omega)
    obtain ⟨z3, e3, b3⟩ := each 3 (by omega)
    obtain ⟨z4, e4, b4⟩ := each 4 (by omega)
    obtain ⟨z5, e5, b5⟩ := each 5 (by omega)
    simp only [List.drop_succ_cons, List.drop_zero, List.take_succ_cons, List.take_zero, List.cons.injEq, and_true] at e0 e1 e2 e3 e4 e5
    subst e0 e1 e2 e3 e4 e5
    exact ⟨⟨z0, z1, z2, z3, z4, z5⟩, rfl, ⟨b0, b1, b2, b3, b4, b5⟩⟩
end
end Go.Proofs.YtjpmlneihbckpaaGreatDoor
/- A region that draws, within a fence: an operation that reads may be taken first, though others ahead of the tail make memory. -/
set_option linter.unusedVariables false
set_option linter.unusedSimpArgs false
namespace Go.Proofs.YtjpmlneihbckpaaGreatDoor
open Go Go.RowKit
section
variable {F : Fence} {n : Nat} {P : Program} {ops : Array Oper} {md : Region.Mode} {Q : Exit → Act → World → Prop} {C : World → Prop}
/-- it yields v in every world of the class, and is about to make no call -/
def YieldsC (P : Program) (ops : Array Oper) (C : World → Prop) (o : Oper) (v : Value) (a : Act) : Prop :=
  Region.wanted o (yielded ops a.tmps) = true ∧ (∀ w, C w → (execOp a.eval o).run P w = .ok (.value v) w) ∧ ∀ w, o.about P w a.eval = none
theorem YieldsC.of_same {o : Oper} {v : Value} {a a' : Act} (hy : YieldsC P ops C o v a) (he : execOp a'.eval o = execOp a.eval o)
    (hw : Region.wanted o (yielded ops a'.tmps) = Region.wanted o (yielded ops a.tmps)) (hb : ∀ w, o.about P w a'.eval = o.about P w a.eval) : YieldsC P ops C o v a' :=
  ⟨hw.trans hy.1, fun w hc => by rw [he]; exact hy.2.1 w hc, fun w => by rw [hb w]; exact hy.2.2 w⟩
theorem YieldsC.op {i : Nat} {o : Oper} {v : Value} {a : Act} (hnd : noDefer ops = true) (hi : ops[i]? = some o) (hy : YieldsC P ops C o v a) {K : Act → World → Prop} {w : World} (hc : C w) (h : K (a.put o.dst v) w) : wpOpIn F n P ops Q i K a w := by
  unfold wpOpIn
  simp only [hi]
  rw [if_pos hy.1]
  refine ⟨(fun f hf => by rw [hy.2.2 w] at hf; cases hf), ?_⟩
  rw [Oper.semAt_plain F _ _ (noDefer_spec hnd hi), hy.2.1 w hc]
  exact h
theorem wpOpIn_putC {j : Nat} {oi oj : Oper} {v : Value} (hnd : noDefer ops = true) (hj : ops[j]? = some oj) (hap : oi.apart ops oj = true)
    (hsi : ∀ cs b, oi.op ≠ .select cs b) (hsj : ∀ cs b, oj.op ≠ .select cs b) (hQ : ∀ c a w, Q (.panic c) (a.put oi.dst v) w → Q (.panic c) a w)
    {K : Act → World → Prop} {a : Act} {w : World} (hy : YieldsC P ops C oi v a) (h : wpOpIn F n P ops Q j K (a.put oi.dst v) w) :
    wpOpIn F n P ops Q j (fun a' w' => YieldsC P ops C oi v a' ∧ K (a'.put oi.dst v) w') a w := by
  obtain ⟨h1, h2, h3⟩ := Oper.apart_spec hap
  have keep : ∀ (a : Act), YieldsC P ops C oi v a → ∀ u, YieldsC P ops C oi v (a.put oj.dst u) := fun a hy u =>
    hy.of_same (execOp_put oi hsi a oj.dst u h3) (wanted_put oi a oj.dst u h3) (fun w => about_put oi w a oj.dst u h3)
  have keepD : ∀ d, YieldsC P ops C oi v { a with defers := d :: a.defers } := fun d => hy.of_same rfl rfl (fun _ => rfl)
  have hpl : ∀ ρ, oj.semAt F.round ρ = execOp ρ oj := fun ρ => Oper.semAt_plain F _ _ (noDefer_spec hnd hj)
  unfold wpOpIn at *
  simp only [hj] at *
  rw [wanted_put oj a oi.dst v h1, about_put oj w a oi.dst v h1] at h
  split
  · rename_i hw
    simp only [hw, if_true] at h
    unfold Oper.wpIn at *
    rw [about_put oj w a oi.dst v h1] at h
    refine ⟨h.1, ?_⟩
    have h := h.2
    rw [hpl, execOp_put oj hsj a oi.dst v h1] at h
    rw [hpl]
    generalize (execOp a.eval oj).run P w = r at *
    cases r with
    | ok x w' =>
      cases x <;> simp only [Oper.uponIn] at h ⊢
      case value u => exact ⟨keep a hy u, by rw [← Act.put_comm a v u h2]; exact h⟩
      case skip => exact ⟨keep a hy _, by rw [← Act.put_comm a v undef h2]; exact h⟩
      case defer d =>
        refine ⟨keep _ (keepD d) _, ?_⟩
        rw [← Act.put_comm _ v undef h2, ← Act.put_defers]
        exact h
      case enter f args =>
        refine ⟨h.1, CallsIn.mono h.2 fun e w'' he => ?_⟩
        cases e with
        | returned u => exact ⟨keep a hy u, by rw [← Act.put_comm a v u h2]; exact he⟩
        | panicked c => exact hQ _ _ _ he
        | outgrown => exact he
      case row row args => exact ⟨h.1, RowsIn.mono h.2 fun u w'' he => ⟨keep a hy u, by rw [← Act.put_comm a v u h2]; exact he⟩⟩
      case round l f tmps assign body =>
        refine ⟨h.1, RoundIn.mono h.2 fun e w'' he => ?_⟩
        cases e with
        | returned u => exact ⟨keep a hy u, by rw [← Act.put_comm a v u h2]; exact he⟩
        | panicked c => exact hQ _ _ _ he
        | outgrown => exact he
    | halt x w' =>
      cases x <;> simp only [Oper.uponIn] at h ⊢
      case panic u => exact hQ _ _ _ h
  · rename_i hw
    simp only [hw] at h
    exact ⟨h.1, keep a hy _, by rw [← Act.put_comm a v undef h2]; exact h.2⟩
/-- in any order; behind each of the first m operations the world is of the class -/
def wpAnyC (F : Fence) (n : Nat) (P : Program) (md : Region.Mode) (ops : Array Oper) (Q : Exit → Act → World → Prop) (C : World → Prop) (m : Nat) : Nat → Array Bool → Act → World → Prop
  | 0, listed, a, w => Region.ready md ops listed = [] ∧ Q .normal a w
  | f + 1, listed, a, w =>
    (Region.ready md ops listed = [] → Q .normal a w) ∧
    ∀ i ∈ Region.ready md ops listed, wpOpIn F n P ops Q i (fun a' w' => (i < m → C w') ∧ wpAnyC F n P md ops Q C m f (listed.setIfInBounds i true) a' w') a w
variable {m : Nat}
theorem wpAnyC.any : ∀ (f : Nat) (listed : Array Bool) (a : Act) (w : World), wpAnyC F n P md ops Q C m f listed a w → wpAnyIn F n P md ops Q f listed a w
  | 0, _, _, _, h => h
  | f + 1, listed, a, w, h => ⟨h.1, fun i hi => wpOpIn_mono (fun a' w' h' => wpAnyC.any f _ a' w' h'.2) (h.2 i hi)⟩
theorem wpAnyC_first {i : Nat} {oi : Oper} {v : Value} (hnd : noDefer ops = true) (hi : ops[i]? = some oi) (hsel : ∀ (j : Nat) (o : Oper) cs b, ops[j]? = some o → o.op ≠ .select cs b)
    (hs : Region.sinkB md ops m = true) (hc : Region.chainB md ops m = true) (hm : m < ops.size) (him : i < m) (hQ : ∀ c a w, Q (.panic c) (a.put oi.dst v) w → Q (.panic c) a w) :
    ∀ (f : Nat) (listed : Array Bool) (a : Act) (w : World), HeadInv md ops m listed →
      (∀ j oj, ops[j]? = some oj → j ≠ i → listed.getD j true = false → (∀ e ∈ oj.after, Region.binds md e = true → e.on ≠ i) → oi.apart ops oj = true) →
      i ∈ Region.ready md ops listed → YieldsC P ops C oi v a → C w →
      wpAnyC F n P md ops Q C m f (listed.setIfInBounds i true) (a.put oi.dst v) w → wpAnyC F n P md ops Q C m (f + 1) listed a w := by
  intro f
  induction f with
  | zero =>
    intro listed a w inv _ hr hy hC H
    refine ⟨fun h => (by rw [h] at hr; cases hr), fun j hj => ?_⟩
    by_cases hji : j = i
    · subst hji; exact hy.op hnd hi hC ⟨fun _ => hC, H⟩
    · have := ready_mono hj hji
      rw [H.1] at this
      cases this
  | succ f ih =>
    intro listed a w inv hfree hr hy hC H
    have hun := (mem_ready.1 hr).1
    refine ⟨fun h => (by rw [h] at hr; cases hr), fun j hj => ?_⟩
    have hjm : j < m := by
      rcases Nat.lt_or_ge j m with h | h
      · exact h
      · exact absurd hj (tail_waits hs hc hm inv _ i rfl him hun j h)
    by_cases hji : j = i
    · subst hji; exact hy.op hnd hi hC ⟨fun _ => hC, H⟩
    · have h1 := H.2 j (ready_mono hj hji)
      obtain ⟨hjun, oj, hoj, hall⟩ := mem_ready.1 hj
      have hnot : ∀ e ∈ oj.after, Region.binds md e = true → e.on ≠ i := fun e he hb heq => by
        have h1 := hall e he hb
        rw [heq, getD_both hun] at h1
        cases h1
      have h2 := wpOpIn_putC hnd hoj (hfree j oj hoj hji hjun hnot) (fun cs b => hsel i oi cs b hi) (fun cs b => hsel j oj cs b hoj) hQ hy h1
      have hfree' : ∀ k ok, ops[k]? = some ok → k ≠ i → (listed.setIfInBounds j true).getD k true = false →
          (∀ e ∈ ok.after, Region.binds md e = true → e.on ≠ i) → oi.apart ops ok = true := fun k ok hk hki hun' hno => by
        refine hfree k ok hk hki ?_ hno
        by_cases hjk : j = k
        · subst hjk; exact hjun
        · rw [getD_set_ne true hjk] at hun'; exact hun'
      refine wpOpIn_mono (fun a' w' h3 => ?_) h2
      have hC' := h3.2.1 hjm
      refine ⟨fun _ => hC', ih (listed.setIfInBounds j true) a' w' (inv.set hj hjm) hfree' (ready_mono hr (Ne.symm hji)) h3.1 hC' ?_⟩
      rw [Array.setIfInBounds_comm _ _ hji]
      exact h3.2.2
/-- the act goes on where the row ends -/
def Qn (K : Act → World → Prop) (Q : Exit → Act → World → Prop) : Exit → Act → World → Prop
  | .normal, a, w => K a w
  | e, a, w => Q e a w
theorem wpIn_post {o : Oper} {a : Act} {w : World} {K : Act → World → Prop} {Q' : Exit → Act → World → Prop} (hQ : ∀ c a w, Q' (.panic c) a w → Q (.panic c) a w) (hO : LetsOut Q' → LetsOut Q) (hh : o.wpIn F n P a w K Q') : o.wpIn F n P a w K Q := by
  unfold Oper.wpIn at *
  refine ⟨hh.1, ?_⟩
  have hh := hh.2
  generalize (o.semAt F.round a.eval).run P w = r at *
  cases r with
  | ok x w' =>
    cases x <;> simp only [Oper.uponIn] at hh ⊢ <;>
      first
        | exact hh
        | exact ⟨hh.1, CallsIn.mono hh.2 (fun e w'' he => by cases e <;> first | exact he | exact hQ _ _ _ he | exact hO he)⟩
        | exact ⟨hh.1, RoundIn.mono hh.2 (fun e w'' he => by cases e <;> first | exact he | exact hQ _ _ _ he | exact hO he)⟩
  | halt x w' => cases x <;> simp only [Oper.uponIn] at hh ⊢ <;> first | exact hQ _ _ _ hh | exact hh
theorem wpOpIn_list {i : Nat} {o : Oper} {K : Act → World → Prop} {a : Act} {w : World} (hi : ops[i]? = some o) (h : wpListIn F n P ops (Qn K Q) [o] a w) : wpOpIn F n P ops Q i K a w := by
  unfold wpOpIn
  simp only [hi]
  unfold wpListIn at h
  split
  · rename_i hw
    rw [if_pos hw] at h
    exact wpIn_post (fun _ _ _ h => h) (fun h => h) h
  · rename_i hw
    rw [if_neg hw] at h
    exact h
/-- the first operations only read -/
def wpPureC (P : Program) (ops : Array Oper) (C : World → Prop) (L : Act → Prop) : List Oper → Act → Prop
  | [], a => L a
  | o :: l, a => ∃ v, YieldsC P ops C o v a ∧ wpPureC P ops C L l (a.put o.dst v)
/-- a forced row, of which the first c leave a world of the class -/
def wpChainC (F : Fence) (n : Nat) (P : Program) (ops : Array Oper) (Q : Exit → Act → World → Prop) (C : World → Prop) : Nat → List Oper → Act → World → Prop
  | 0, l, a, w => wpListIn F n P ops Q l a w
  | _ + 1, [], a, w => Q .normal a w
  | c + 1, o :: l, a, w => wpListIn F n P ops (Qn (fun a' w' => C w' ∧ wpChainC F n P ops Q C c l a' w') Q) [o] a w
theorem wpChainC_step {c : Nat} {o : Oper} {l : List Oper} {a : Act} {w : World} (h : ∀ K : Act → World → Prop, (∀ a' w', C w' → wpChainC F n P ops Q C c l a' w' → K a' w') → wpListIn F n P ops (Qn K Q) [o] a w) : wpChainC F n P ops Q C (c + 1) (o :: l) a w :=
  h _ (fun _ _ h1 h2 => ⟨h1, h2⟩)
theorem wpPureC_step {L : Act → Prop} {o : Oper} {l : List Oper} {a : Act} (v : Value) (h1 : Region.wanted o (yielded ops a.tmps) = true) (h2 : ∀ w, C w → (execOp a.eval o).run P w = .ok (.value v) w) (h3 : ∀ w, o.about P w a.eval = none) (h : wpPureC P ops C L l (a.put o.dst v)) : wpPureC P ops C L (o :: l) a :=
  ⟨v, ⟨h1, h2, h3⟩, h⟩
theorem wpChainC_zero {l : List Oper} {a : Act} {w : World} (h : wpListIn F n P ops Q l a w) : wpChainC F n P ops Q C 0 l a w := h
theorem wpPureC_nil {L : Act → Prop} {a : Act} (h : L a) : wpPureC P ops C L [] a := h
theorem wpAnyC_of_chain : ∀ (l : List Oper) (c k : Nat) (listed : Array Bool) (a : Act) (w : World), (∀ j, l[j]? = ops[k + j]?) → m ≤ k + c →
    Region.seqB md ops l.length k listed = true → wpChainC F n P ops Q C c l a w → wpAnyC F n P md ops Q C m l.length listed a w
  | [], c, k, listed, a, w, _, _, hB, h => ⟨by simpa [Region.seqB] using hB, by cases c <;> exact h⟩
  | o :: l, c, k, listed, a, w, hl, hm, hB, h => by
    have h0 : ops[k]? = some o := by simpa using (hl 0).symm
    simp only [List.length_cons, Region.seqB, Bool.and_eq_true, decide_eq_true_eq] at hB
    refine ⟨fun h1 => (by rw [hB.1] at h1; cases h1), fun i hi => ?_⟩
    rw [hB.1] at hi
    have hik : i = k := by simpa using hi
    subst hik
    have hl' : ∀ j, l[j]? = ops[i + 1 + j]? := fun j => by have := hl (j + 1); simpa [Nat.add_assoc, Nat.add_comm 1 j] using this
    cases c with
    | zero =>
      have hw : wpOpIn F n P ops Q i (wpListIn F n P ops Q l) a w := by unfold wpOpIn; simp only [h0]; exact h
      exact wpOpIn_mono (fun a' w' h' => ⟨fun him => by omega, wpAnyC_of_chain l 0 (i + 1) _ a' w' hl' (by omega) hB.2 h'⟩) hw
    | succ c =>
      exact wpOpIn_mono (fun a' w' h' => ⟨fun _ => h'.1, wpAnyC_of_chain l c (i + 1) _ a' w' hl' (by omega) hB.2 h'.2⟩) (wpOpIn_list h0 h)
theorem wpAnyC_lex {g : Nat} {w : World} (hnd : noDefer ops = true) (hsel : Region.noSelect ops = true) (hs : Region.sinkB md ops m = true) (hc : Region.chainB md ops m = true) (hm : m < ops.size) (hC : C w) {L : Array Bool → Act → Prop}
    (hL : ∀ listed a, L listed a → wpAnyC F n P md ops Q C m g listed a w) {Lq : Act → Prop} {k1 : Nat} (hQ : ∀ c a a' w, Q (.panic c) a w → Q (.panic c) a' w) (hLq : ∀ listed a, Region.seqB md ops g k1 listed = true → Lq a → L listed a) :
    ∀ (l : List Oper) (k : Nat) (listed : Array Bool) (a : Act), (∀ j, j < l.length → l[j]? = ops[k + j]?) → k + l.length = k1 → k1 ≤ m → HeadInv md ops m listed →
    Region.lexHead md ops g l.length k listed = true → wpPureC P ops C Lq l a → wpAnyC F n P md ops Q C m (l.length + g) listed a w
  | [], k, listed, a, _, hk, _, _, hB, h => by
    have : k = k1 := by simpa using hk
    subst this
    rw [List.length_nil, Nat.zero_add]
    exact hL _ _ (hLq _ _ (by simpa [Region.lexHead] using hB) h)
  | o :: l, k, listed, a, hl, hk, hkm, inv, hB, h => by
    have h0 : ops[k]? = some o := by simpa using (hl 0 (by simp)).symm
    simp only [List.length_cons, Region.lexHead, Bool.and_eq_true] at hB
    obtain ⟨⟨hr, hf⟩, hB'⟩ := hB
    have hkn : k < m := by simp only [List.length_cons] at hk; omega
    have hr' : k ∈ Region.ready md ops listed := by simpa using hr
    obtain ⟨v, hy, hK⟩ := h
    rw [List.length_cons, show l.length + 1 + g = (l.length + g) + 1 by omega]
    exact wpAnyC_first hnd h0 (Region.noSelect_spec hsel) hs hc hm hkn (fun c a w h => hQ c _ _ w h) (l.length + g) listed a w inv (Region.free_spec h0 hf) hr' hy hC
      (wpAnyC_lex hnd hsel hs hc hm hC hL hQ hLq l (k + 1) _ _ (fun j hj => by have := hl (j + 1) (by simp; omega); simpa [Nat.add_assoc, Nat.add_comm 1 j] using this) (by simp only [List.length_cons] at hk; omega) hkm (inv.set hr' hkn) hB' hK)
/-- A region that draws: k reads, then a forced row of which the operations below m leave a world of the class. -/
theorem wpIn_region_float {id : Nat} {Q : Exit → Act → World → Prop} {a : Act} {w : World} {l : List Oper} (C : World → Prop) (k c m : Nat) (hm : P.follows .mixedOrders = true) (hnd : noDefer l.toArray = true) (hsel : Region.noSelect l.toArray = true)
    (hs : Region.sinkB .any l.toArray m = true) (hc : Region.chainB .any l.toArray m = true) (hml : m < l.length) (hkm : k + c = m) (hlex : Region.lexHead .any l.toArray (l.length - k) k 0 (Array.replicate l.toArray.size false) = true)
    (hC : C w.drew) (hQ : ∀ c a a' w, Q (.panic c) a w → Q (.panic c) a' w) (h : wpPureC P l.toArray C (fun a' => wpChainC F n P l.toArray Q C c (l.drop k) a' w.drew) (l.take k) a) : (Code.region id l.toArray true).wpIn F n P Q a w := by
  have inv0 : HeadInv .any l.toArray m (Array.replicate l.toArray.size false) :=
    ⟨by simp, fun j oj _ hl => (by rw [getD_replicate_false] at hl; cases hl), fun t _ ht => getD_in (by simpa using ht) (getD_replicate_false _ _)⟩
  have htl : (l.take k).length = k := by simp; omega
  refine wpIn_region_any hm (wpAnyC.any (C := C) (m := m) _ _ _ _ ?_)
  have key := wpAnyC_lex (F := F) (n := n) (P := P) (md := .any) (ops := l.toArray) (Q := Q) (C := C) (m := m) (g := l.length - k) (w := w.drew) hnd hsel hs hc (by simpa using hml) hC
    (L := fun listed a => Region.seqB .any l.toArray (l.length - k) k listed = true ∧ wpChainC F n P l.toArray Q C c (l.drop k) a w.drew)
    (fun listed a hL => by
      have hdl : (l.drop k).length = l.length - k := by simp
      have := wpAnyC_of_chain (F := F) (n := n) (P := P) (md := .any) (ops := l.toArray) (Q := Q) (C := C) (m := m) (l.drop k) c k listed a w.drew (fun j => by simp [List.getElem?_drop]) (by omega) (by rw [hdl]; exact hL.1) hL.2
      rwa [hdl] at this)
    (Lq := fun a' => wpChainC F n P l.toArray Q C c (l.drop k) a' w.drew) (k1 := k) hQ (fun listed a h1 h2 => ⟨h1, h2⟩) (l.take k) 0 (Array.replicate l.toArray.size false) a
    (fun j hj => by rw [htl] at hj; simp [hj]) (by rw [htl]; omega) (by omega) inv0 (by rw [htl]; exact hlex) h
  rw [htl, show k + (l.length - k) = l.toArray.size by simp; omega] at key
  exact key
end
end Go.Proofs.YtjpmlneihbckpaaGreatDoor

/-
  The seat's own texts, what AvlWrong wants besides: Nds, Hs, Wr12.
-/
import Derived.Test.YtoifdmbffaaffaaGreatDoorNc
import Derived.Laws.AppendOwnNone
import Derived.Maps.AppendAt
import Derived.Deep.AppendLies
import Derived.Laws.OwnMore
/- Slices of nodes by value: the laws that keep what nodes held. -/
set_option linter.unusedVariables false
set_option linter.unusedSimpArgs false
namespace Go.Proofs.YtoifdmbffaaffaaGreatDoor
open Go.RowKit Go.Shelf
def ndC (x : Nd) : List Value := [.int .u64 (x.key : Nat), .int .u64 (x.val : Nat), .int .u64 (x.left : Nat), .int .u64 (x.right : Nat), .int .u64 (x.mark : Nat), .int .u64 (x.size : Nat)]
def ndsV (l : List Nd) : List Value := l.flatMap ndC
theorem ndsV_len (l : List Nd) : (ndsV l).length = l.length * 6 := by
  induction l with
  | nil => rfl
  | cons p l ih => simp only [ndsV, ndC, List.flatMap_cons, List.length_append, List.length_cons, List.length_nil] at ih ⊢; omega
theorem ndsV_append (l m : List Nd) : ndsV (l ++ m) = ndsV l ++ ndsV m := by simp [ndsV]
theorem ndsV_at : ∀ (l : List Nd) (k : Nat) (h : k < l.length), (ndsV l)[k * 6]? = some (.int .u64 (l[k].key : Nat)) ∧ (ndsV l)[k * 6 + 1]? = some (.int .u64 (l[k].val : Nat))
  | p :: l, 0, _ => ⟨rfl, rfl⟩
  | p :: l, k + 1, h => by
    have := ndsV_at l k (by simpa using h)
    rw [show (k + 1) * 6 = k * 6 + 6 by omega]
    exact this
theorem ndC_one (x : Nd) : ∀ u ∈ ndC x, u.oneCell' = true := by
  intro u hu
  unfold ndC at hu
  simp only [List.mem_cons, List.not_mem_nil, or_false] at hu
  rcases hu with rfl | rfl | rfl | rfl | rfl | rfl <;> rfl
theorem Tryz.under_nodes : Tryz.prog.underlying 60 = some (.slice 54) := by kernel_rfl
theorem Tryz.info_node : (Tryz.prog.info? 54).map (fun i => (i.zero, i.size, i.bytes)) = some (some (.agg #[.int .u64 0, .int .u64 0, .int .u64 0, .int .u64 0, .int .u64 0, .int .u64 0]), 6, 48) := by kernel_rfl
/-- 'append(out, x)', out the call's own: x lies in a fresh block of one node -/
theorem app_nd {ops : Array Oper} {rest : List Oper} {o : Oper} {a : Act} {Q : Exit → Act → World → Prop} (hgd : o.guard = none) (s x : Operand)
    (ho : o.op = .call { callee := .builtin .append, args := #[s, x], argTypes := #[60, 60] }) (w : World) (base : Nat) (v : Value) (xs : List Nd) (hs : a.eval s = v)
    (hown : w.ownsRow base 54 6 v xs.length (ndsV xs)) (b : Nat) (y : Nd) (hx : a.eval x = .slice (some ⟨b, 0, none⟩) 1 1) (hr : ∀ j u, (ndC y)[j]? = some u → w.cell? ⟨b, j, none⟩ = some u) (hlen : xs.length ≤ 1000000) (hbase : base ≤ w.heap.size)
    (h : ∀ v' w', w'.ownsRow base 54 6 v' (xs ++ [y]).length (ndsV (xs ++ [y])) → w.grownBy w' v.ownBlock → (v'.ownBlock = v.ownBlock ∨ v'.ownBlock = some w.heap.size) → wpList Tryz.prog ops Q rest (a.put o.dst v') w') :
    wpList Tryz.prog ops Q (o :: rest) a w := by
  obtain ⟨i0, hi, hz0, hz1, hz2⟩ := info_parts Tryz.info_node
  have hcells : ∀ j u, (ndC y)[j]? = some u → w.cell? ((⟨b, 0, none⟩ : Addr).add j) = some u := by
    intro j u hu
    rw [show (⟨b, 0, none⟩ : Addr).add j = ⟨b, j, none⟩ by unfold Addr.add; split <;> simp_all]
    exact hr j u hu
  refine wpList_append_own_at w hgd s x 60 ho base 54 i0 _ 6 48 Tryz.under_nodes hi hz0 hz1 hz2 rfl (by decide) v xs.length (ndsV xs) hs hown ⟨b, 0, none⟩ 1 1 (ndC y) hx rfl hcells (ndC_one y) (by unfold maxLen; omega) (by omega) hbase ?_
  intro v' w' h1 h2 _ h4
  exact h v' w' (by rw [List.length_append, ndsV_append]; simpa [ndsV] using h1) h2 h4
theorem ownN_below {w w1 w2 : World} {base z : Nat} {e : TypeId} {n : Nat} {v : Value} {xs : List Value} (hb : Below base w w1) (hown : w1.ownsRow base e z v n xs) (hg : w1.grownBy w2 v.ownBlock) (hB : base ≤ w1.heap.size) : Below base w w2 :=
  hb.trans ⟨hg.os, hg.tape, hg.output, hg.size, fun k hk => hg.block k (by omega) (fun e => by
    rcases hown.2 with ⟨rfl, _⟩ | ⟨g, cap, cur, rfl, hge, _⟩
    · simp [Value.ownBlock] at e
    · have : k = g := by simpa [Value.ownBlock] using e
      omega)⟩
theorem ownN_form {w : World} {base z : Nat} {e : TypeId} {v : Value} {n : Nat} {xs : List Value} (h : w.ownsRow base e z v n xs) : ∃ A c, v = .slice A n c := by
  rcases h.2 with ⟨rfl, rfl⟩ | ⟨g, cap, cur, rfl, _⟩
  · exact ⟨none, 0, rfl⟩
  · exact ⟨_, _, rfl⟩
theorem ownN_keep {B : Nat} {e : TypeId} {k : Nat} {v : Value} {n : Nat} {xs : List Value} {w w' : World} (h : w.ownsRow B e k v n xs) (hb : Below w.heap.size w w') : w'.ownsRow B e k v n xs :=
  h.kept (row := none) ⟨hb.os, hb.tape, hb.output, hb.size, fun j hj _ => hb.block j hj⟩ (by cases hv : v.ownBlock <;> simp)
theorem nd_new (W : World) (y : Nd) (b : Nat) (hb : b = W.heap.size) (T : TypeId) (j : Nat) (u : Value) (h : (ndC y)[j]? = some u) : (W.alloc (.cells #[.int .u64 (y.key : Nat), .int .u64 (y.val : Nat), .int .u64 (y.left : Nat), .int .u64 (y.right : Nat), .int .u64 (y.mark : Nat), .int .u64 (y.size : Nat)] T)).cell? ⟨b, j, none⟩ = some u := by
  subst hb
  match j, h with
  | 0, h => exact (by go_simp : _ = some (Value.int .u64 (y.key : Nat))).trans h
  | 1, h => exact (by go_simp : _ = some (Value.int .u64 (y.val : Nat))).trans h
  | 2, h => exact (by go_simp : _ = some (Value.int .u64 (y.left : Nat))).trans h
  | 3, h => exact (by go_simp : _ = some (Value.int .u64 (y.right : Nat))).trans h
  | 4, h => exact (by go_simp : _ = some (Value.int .u64 (y.mark : Nat))).trans h
  | 5, h => exact (by go_simp : _ = some (Value.int .u64 (y.size : Nat))).trans h
  | j + 6, h => cases h
theorem BT.size_nil {t : BT} (h : t.size = 0) : t = .nil := by
  cases t with
  | nil => rfl
  | node y ky vy m k v l r => simp only [BT.size] at h; omega
theorem BT.hgt_one {t : BT} (h : t.size ≠ 0) : t.hgt ≠ 0 := by
  cases t with
  | nil => exact absurd rfl h
  | node y ky vy m k v l r => simp only [BT.hgt]; omega
theorem own_none (w : World) (base z : Nat) (e : TypeId) : w.ownsRow base e z (.slice none 0 0) 0 [] := ⟨by simp, .inl ⟨rfl, rfl⟩⟩
/-- a row of numbers that lies off F, through a call that turns F -/
theorem row_off {w : World} {base c n : Nat} {A : Option Addr} {e : TypeId} {xs : List Value} {F : Nat → Prop} (h : w.ownsRow base e 1 (.slice A n c) n xs) (hF : ∀ b, F b → b < base) {i : Nat} {u : Value} (hi : i < n) (hu : xs[i]? = some u) :
    ∃ g, A = some ⟨g, 0, none⟩ ∧ ∀ W F', Turn w F W F' → W.cell? ⟨g, i, none⟩ = some u := by
  obtain ⟨g, cap, hv, hb, _⟩ := h.form (by omega)
  cases hv
  refine ⟨g, rfl, fun W F' hT => ?_⟩
  refine hT.cell ((h.cellAt i (by omega)).trans hu) (fun hf => ?_)
  have := hF _ hf
  simp only at this
  omega
theorem nds_off {w : World} {base c n : Nat} {A : Option Addr} {xs : List Nd} {F : Nat → Prop} (h : w.ownsRow base 54 6 (.slice A n c) n (ndsV xs)) (hn : n = xs.length) (hF : ∀ b, F b → b < base) {i : Nat} (hi : i < xs.length) :
    ∃ g, A = some ⟨g, 0, none⟩ ∧ ∀ W F', Turn w F W F' → W.cell? ⟨g, i * 6, none⟩ = some (.int .u64 (xs[i].key : Nat)) ∧ W.cell? ⟨g, i * 6 + 1, none⟩ = some (.int .u64 (xs[i].val : Nat)) := by
  obtain ⟨g, cap, hv, hb, _⟩ := h.form (by omega)
  cases hv
  obtain ⟨e1, e2⟩ := ndsV_at xs i hi
  have hg : ¬ F g := fun hf => by have := hF _ hf; omega
  exact ⟨g, rfl, fun W F' hT => ⟨hT.cell ((h.cellAt _ (by omega)).trans e1) hg, hT.cell ((h.cellAt _ (by omega)).trans e2) hg⟩⟩
end Go.Proofs.YtoifdmbffaaffaaGreatDoor
/- Handles that are told: append of one; what Check's OK shows of heights. -/
set_option linter.unusedVariables false
set_option linter.unusedSimpArgs false
namespace Go.Proofs.YtoifdmbffaaffaaGreatDoor
open Go.RowKit Go.Shelf
/-- 'append(out, x)', out the call's own -/
theorem app_h {ops : Array Oper} {rest : List Oper} {o : Oper} {a : Act} {Q : Exit → Act → World → Prop} (hgd : o.guard = none) (s x : Operand)
    (ho : o.op = .call { callee := .builtin .append, args := #[s, x], argTypes := #[50, 50] }) (w : World) (base : Nat) (v : Value) (xs : List Nat) (hs : a.eval s = v)
    (hown : w.ownsRow base 23 1 v xs.length (hsV xs)) (b : Nat) (y : Nat) (hx : a.eval x = .slice (some ⟨b, 0, none⟩) 1 1) (hr : w.cell? ⟨b, 0, none⟩ = some (.int .u64 (y : Nat))) (hlen : xs.length ≤ 1000000) (hbase : base ≤ w.heap.size)
    (h : ∀ v' w', w'.ownsRow base 23 1 v' (xs ++ [y]).length (hsV (xs ++ [y])) → w.grownBy w' v.ownBlock → (v'.ownBlock = v.ownBlock ∨ v'.ownBlock = some w.heap.size) → wpList Tryz.prog ops Q rest (a.put o.dst v') w') :
    wpList Tryz.prog ops Q (o :: rest) a w := by
  obtain ⟨i0, hi, hz0, hz1, hz2⟩ := info_parts Tryz.info_h
  have hcells : ∀ j u, ([.int .u64 (y : Nat)] : List Value)[j]? = some u → w.cell? ((⟨b, 0, none⟩ : Addr).add j) = some u := by
    intro j u hu
    cases j with
    | zero =>
      rw [show (⟨b, 0, none⟩ : Addr).add 0 = ⟨b, 0, none⟩ by unfold Addr.add; split <;> simp_all]
      rw [hr]
      exact hu
    | succ j => cases hu
  refine wpList_append_own_at w hgd s x 50 ho base 23 i0 _ 1 8 Tryz.under_hs hi hz0 hz1 hz2 rfl (by decide) v xs.length (hsV xs) hs hown ⟨b, 0, none⟩ 1 1 [.int .u64 (y : Nat)] hx rfl hcells (by simp [Value.oneCell']) (by unfold maxLen; omega) (by omega) hbase ?_
  intro v' w' h1 h2 _ h4
  exact h v' w' (by rw [List.length_append]; unfold hsV at h1 ⊢; rw [List.map_append]; exact h1) h2 h4
theorem w64_range (z : Int) : -9223372036854775808 ≤ wrap64 z ∧ wrap64 z ≤ 9223372036854775807 := by unfold wrap64; omega
theorem w64_toU (z : Int) (h : -9223372036854775808 ≤ z ∧ z ≤ 9223372036854775807) : wrap64 ((toU z : Nat) : Int) = z := by
  rw [← wrapU]
  show wrap64 (z % 18446744073709551616) = z
  unfold wrap64
  omega
theorem near_of {a b : Int} (ha : -9223372036854775808 ≤ a ∧ a ≤ 9223372036854775807) (hb : -9223372036854775808 ≤ b ∧ b ≤ 9223372036854775807) (h2 : ¬ wrap64 (b + 1) < a) (h3 : ¬ wrap64 (a + 1) < b) : a - b ≤ 1 ∧ b - a ≤ 1 := by
  unfold wrap64 at h2 h3
  omega
theorem avBad_none {R : Nat → Option (List Nat)} {y : Nat} (h : avBad R y = false) :
    wrap64 ((nodeG R y).mark : Nat) = wrap64 (max (avH R (nodeG R y).left) (avH R (nodeG R y).right) + 1) ∧ avH R (nodeG R y).left - avH R (nodeG R y).right ≤ 1 ∧ avH R (nodeG R y).right - avH R (nodeG R y).left ≤ 1 := by
  unfold avBad at h
  simp only [Bool.or_eq_false_iff] at h
  obtain ⟨⟨h1, h2⟩, h3⟩ := h
  unfold avBad1 at h1
  unfold avBad2 at h2
  unfold avBad3 at h3
  have e1 : (((nodeG R y).mark : Nat) : Int) = ((toU (wrap64 (max (avH R (nodeG R y).left) (avH R (nodeG R y).right) + 1)) : Nat) : Int) := by simpa using h1
  have e2 := of_decide_eq_false h2
  have e3 := of_decide_eq_false h3
  refine ⟨?_, near_of (w64_range _) (w64_range _) e2 e3⟩
  rw [e1]
  exact w64_toU _ (w64_range _)
theorem nodeE_of_pairE {R : Nat → Option (List Nat)} {y : Nat} (h : pairE R y = 0) : nodeE R y = 0 := by
  unfold pairE at h
  by_cases h0 : nodeE R y = 0
  · exact h0
  · rw [if_pos h0] at h; exact h
theorem inR_zero (R : Nat → Option (List Nat)) (n : Nat) : inR R n 0 = [] := by
  unfold inR goO
  rw [if_neg (by omega)]
  unfold dive
  simp
theorem check_nodes {R : Nat → Option (List Nat)} {n root : Nat} (h : checkR R n root = 0) (hs : (nodeG R root).size < 18446744073709551616) (hn : n ≤ 262144) : ∀ y ∈ inR R n root, nodeE R y = 0 := by
  intro y hy
  by_cases h0 : root = 0
  · rw [h0, inR_zero] at hy; cases hy
  · obtain ⟨⟨c, hc⟩, _⟩ := check_ok h0 h hs hn
    obtain ⟨i, hi, rfl⟩ := List.getElem_of_mem hy
    exact nodeE_of_pairE (chk_told hc hi).1
theorem acheck_ok {R : Nat → Option (List Nat)} {n root : Nat} (h : acheckR R n root = 0) (hs : (nodeG R root).size < 18446744073709551616) (hn : n ≤ 262144) : ∀ y ∈ inR R n root, nodeE R y = 0 ∧ avBad R y = false := by
  unfold acheckR at h
  split at h
  · omega
  · rename_i h1
    split at h
    · cases h
    · rename_i h2
      exact fun y hy => ⟨check_nodes (by omega) hs hn y hy, by
        cases hb : avBad R y with
        | false => rfl
        | true => exact absurd (List.any_eq_true.2 ⟨y, hy, hb⟩) h2⟩
theorem acheck_val (R : Nat → Option (List Nat)) (n root : Nat) : acheckR R n root = 0 ∨ acheckR R n root = 8 := by
  unfold acheckR
  have := checkR_val R n root
  split
  · exact this
  · split
    · exact .inr rfl
    · exact .inl rfl
end Go.Proofs.YtoifdmbffaaffaaGreatDoor
/- loftlaw12.AvlWrong: the walk. -/
set_option linter.unusedVariables false
set_option linter.unusedSimpArgs false
namespace Go.Proofs.YtoifdmbffaaffaaGreatDoor
open Go.RowKit Go.Shelf
def prZ : Pr := (⟨#[122, 122]⟩, ⟨#[]⟩)
set_option maxHeartbeats 1000000 in
set_option maxRecDepth 100000 in
theorem wr12_0 {w : World} (hT : Tab w) (l : List Pr) (A : Option Addr) (c : Nat) (a a2 : Int) (x : Nd) (sd : Bool) (h : ILaw w A l) (hg : 30 < l.length ∨ (l.length ≤ 30 ∧ longL l = true)) :
    Calls Tryz.prog 9 #[.slice A l.length c, .int .i64 a, .int .i64 a2, x.v, .bool sd] w (TrueB w) := by
  obtain ⟨W0, hW0⟩ : ∃ W, W = w.alloc (Obj.cells #[Value.int IntKind.u64 (x.key : Nat), Value.int IntKind.u64 (x.val : Nat), Value.int IntKind.u64 (x.left : Nat), Value.int IntKind.u64 (x.right : Nat), Value.int IntKind.u64 (x.mark : Nat), Value.int IntKind.u64 (x.size : Nat)] 54) := ⟨_, rfl⟩
  have hb0 : Below w.heap.size w W0 := by rw [hW0]; exact (Below.refl _ w).alloc (Nat.le_refl _) _
  have hA := Lib.hid (awake12_at (hT.below hb0 (tab_lt hT)))
  have hL := Lib.hid (refLong_at (c := c) (h.1.prs.below hb0) h.2.2 h.2.1)
  have z1 := h.2.2
  have hb0H := Lib.hid hb0
  have hW0H := Lib.hid hW0
  clear hT h hb0 hW0
  unfold TrueB Nd.v
  rcases hg with hg | ⟨g1, g3⟩
  · have d1 : decide ((30 : Int) < (l.length : Int)) = true := by simp; omega
    go_enter Tryz.func9, Tryz.ntmps9
    go_wp2_with fail
    rw [← hW0H.out]
    refine hA.out.mono ?_
    rintro e w1 ⟨rfl, hb1⟩
    have hbH := Lib.hid (hb0H.out.trans (hb1.mono hb0H.out.size))
    clear hb1
    go_wp2
    go_ret
    exact ⟨rfl, hbH.out⟩
  · have d1 : decide ((30 : Int) < (l.length : Int)) = false := by simp; omega
    have hLa := Lib.hid (by have := hL.out; rw [g3] at this; exact this)
    clear hL g3
    go_enter Tryz.func9, Tryz.ntmps9
    go_wp2_with fail
    rw [← hW0H.out]
    refine hLa.out.mono ?_
    rintro e w0 ⟨rfl, rfl⟩
    go_wp2_with fail
    refine hA.out.mono ?_
    rintro e w1 ⟨rfl, hb1⟩
    have hbH := Lib.hid (hb0H.out.trans (hb1.mono hb0H.out.size))
    clear hb1
    go_wp2
    go_ret
    exact ⟨rfl, hbH.out⟩
set_option maxHeartbeats 8000000 in
set_option maxRecDepth 100000 in
theorem wr12_main {w : World} (hT : Tab w) (l : List Pr) (A : Option Addr) (c : Nat) (a a2 : Int) (x : Nd) (sd : Bool) (h : ILaw w A l) (hab : -9223372036854775808 ≤ a ∧ a ≤ 9223372036854775807) (hab2 : -9223372036854775808 ≤ a2 ∧ a2 ≤ 9223372036854775807) (hx : x.Ok) (g1 : l.length ≤ 30) (g3 : longL l = false) :
    Calls Tryz.prog 9 #[.slice A l.length c, .int .i64 a, .int .i64 a2, x.v, .bool sd] w (TrueB w) := by
  have hmo : Tryz.prog.follows .mixedOrders = true := by kernel_rfl
  obtain ⟨W0, hW0⟩ : ∃ W, W = w.alloc (Obj.cells #[Value.int IntKind.u64 (x.key : Nat), Value.int IntKind.u64 (x.val : Nat), Value.int IntKind.u64 (x.left : Nat), Value.int IntKind.u64 (x.right : Nat), Value.int IntKind.u64 (x.mark : Nat), Value.int IntKind.u64 (x.size : Nat)] 54) := ⟨_, rfl⟩
  have hb0 : Below w.heap.size w W0 := by rw [hW0]; exact (Below.refl _ w).alloc (Nat.le_refl _) _
  have hbx : Box W0 w.heap.size 54 [Value.int IntKind.u64 (x.key : Nat), Value.int IntKind.u64 (x.val : Nat), Value.int IntKind.u64 (x.left : Nat), Value.int IntKind.u64 (x.right : Nat), Value.int IntKind.u64 (x.mark : Nat), Value.int IntKind.u64 (x.size : Nat)] := by rw [hW0]; exact Box.new w 54 [Value.int IntKind.u64 (x.key : Nat), Value.int IntKind.u64 (x.val : Nat), Value.int IntKind.u64 (x.left : Nat), Value.int IntKind.u64 (x.right : Nat), Value.int IntKind.u64 (x.mark : Nat), Value.int IntKind.u64 (x.size : Nat)]
  have hT0 := hT.below hb0 (tab_lt hT)
  have hTw := Lib.hid hT
  have hTH := Lib.hid hT0
  have hL := refLong_at (c := c) (h.1.prs.below hb0) h.2.2 h.2.1
  rw [g3] at hL
  have hLH := Lib.hid hL
  have d1 : decide ((30 : Int) < (l.length : Int)) = false := by simp; omega
  have hso := Lib.hid (refSorted_at (c := c) (h.1.prs.below hb0) hb0.size (by omega) h.2.1)
  have hsl := sortedL_len l
  have hrs := Lib.hid (sortedL_rising l)
  have hszl := sized_of g3
  have hszm : Hid (∀ p ∈ sortedL l, p.1.size ≤ 1000 ∧ p.2.size ≤ 1000) := Lib.hid (fun p hp => hszl p (sortedL_mem hp))
  have hb0H := Lib.hid hb0
  have hW0H := Lib.hid hW0
  have hbxH := Lib.hid hbx
  have hxok := Lib.hid hx
  clear hT h hb0 hW0 hT0 hL g3 hbx hx hszl
  unfold TrueB Nd.v
  go_enter Tryz.func9, Tryz.ntmps9
  go_wp2_with fail
  rw [← hW0H.out]
  refine hLH.out.mono ?_
  rintro e w0 ⟨rfl, rfl⟩
  go_wp2_with fail
  refine hso.out.mono ?_
  rintro e w2 ⟨v, rfl, hrow, hb2⟩
  obtain ⟨A2, c2, rfl, hA2, hc2, hP2⟩ := own_pairs hrow rfl
  have hbw2 := Lib.hid hb2
  have hP2H := Lib.hid hP2
  have hN := Lib.hid (snew_at (hTH.out.below hb2 (tab_lt hTH.out)) 262144 1000 4294967295 (by omega) (by omega) (by omega) (by omega) (by omega))
  clear hrow hb2 hP2 hso hLH hA2
  generalize sortedL l = m at *
  go_wp2_with fail
  refine hN.out.mono ?_
  rintro e w3 ⟨s, F, rfl, hS, hs3, hF3, hb3⟩
  have hb3H := Lib.hid (hbw2.out.trans (hb3.mono hbw2.out.size))
  have hcf3 : CellsF w3 F A2 (prsV m) := CellsF.of_prs (hP2H.out.below hb3) (by exact hb3.size) hF3
  have hF3H : Hid (∀ b, F b → W0.heap.size ≤ b) := Lib.hid (fun b hb => Nat.le_trans hbw2.out.size (hF3 b hb))
  have hs3W : Hid (W0.heap.size ≤ s) := Lib.hid (Nat.le_trans hbw2.out.size hs3)
  have hB := Lib.hid (built12_at (c := c2) hS (by rfl) hcf3 (by omega) hszm.out (by omega) (by simp; omega) (by omega) false)
  clear hS hF3 hb3 hN hcf3
  go_wp2_with fail
  refine hB.out.mono ?_
  rintro e w4 ⟨t, F4, R4, H4, rfl, hpr, hav, hgo, hS4, hH4, hT4⟩
  have hLf := leaf12_at hS4 prZ (by decide) (by decide) (by omega) (by rw [hH4]; simp; omega) (by omega)
  unfold prZ at hLf
  have hLfH := Lib.hid hLf
  obtain ⟨n4, hrd4, -⟩ := hS4.rd
  have hrt0 := BT.root_lt hgo.at' hrd4
  have hT4H := Lib.hid hT4
  have hsh4 : Hid (Short R4) := Lib.hid (hgo.short (fun x ws e => by cases e))
  obtain ⟨rt, hrte⟩ : ∃ rt, t.root = rt := ⟨_, rfl⟩
  have hrt : rt < 18446744073709551616 := hrte ▸ hrt0
  rw [hrte]
  clear hpr hav hgo hS4 hH4 hT4 hB hrd4 hLf hrt0 hrte
  go_wp2_with fail
  refine hLfH.out.mono ?_
  rintro e w5 ⟨xm, kx, vx, F5, R5, H5, rfl, gm, hS5, hH5, hT5, hxm⟩
  have hT5H := Lib.hid (hT4H.out.trans hT5)
  have hsh5 : Hid (Short R5) := Lib.hid (gm.short hsh4.out)
  have hF5W : Hid (∀ b, F5 b → W0.heap.size ≤ b) := Lib.hid (fun b hb => by
    rcases hT5H.out.grow b hb with h1 | h1
    · exact hF3H.out b h1
    · exact Nat.le_trans hb3H.out.size h1)
  have hF5 : Hid (∀ b, F5 b → w.heap.size ≤ b) := Lib.hid (fun b hb => Nat.le_trans hb0H.out.size (hF5W.out b hb))
  have hb5H := Lib.hid (hb3H.out.trans (hT5H.out.to_below hb3H.out.size hF3H.out))
  have hS5H := Lib.hid hS5
  obtain ⟨n5, hrd5, -⟩ := hS5.rd
  have hLi := Lib.hid (list_at hrd5 rt hrt)
  have hL5 := inR_len R5 n5 rt
  have hn5 := hrd5.le
  have hL5lt := Lib.hid (fun y (hy : y ∈ inR R5 n5 rt) => inR_lt (fun z => hrd5.nodeG z) hrt y hy)
  have hG5 := Lib.hid (fun W (hb : Below w5.heap.size w5 W) y hy nd hnd ee hz => nget_lit (hrd5.below hb) y hy nd hnd ee hz)
  have hok5 := Lib.hid (fun y => hrd5.nodeG y)
  generalize inR R5 n5 rt = L5 at *
  clear gm hS5 hH5 hT5 hrd5 hLfH
  go_wp2_with fail
  refine hLi.out.mono ?_
  rintro e w6 ⟨v6, rfl, hro6, hb6⟩
  have hb6H := Lib.hid hb6
  have hro6H := Lib.hid hro6
  have hlen5 : L5.length ≤ 1000000 := by omega
  clear hb6 hro6 hLi
  go_wp2_with (at_builtin; go_must (refine app_h rfl (.tmp 56) (.tmp 58) rfl _ w5.heap.size _ L5 rfl (hro6H.out.alloc _) w6.heap.size xm rfl (by go_simp) hlen5 (by have := hb6H.out.size; simp; omega) ?_))
  intro v7 w7 hro7 hg7 _
  have hb7 := Lib.hid (ownN_below ((hb6H.out.alloc hb6H.out.size _)) (hro6H.out.alloc _) hg7 (by have := hb6H.out.size; simp; omega))
  obtain ⟨Ls, hLs⟩ : ∃ Ls, L5 ++ [xm] = Ls := ⟨_, rfl⟩
  have hLs1 : Ls.length = L5.length + 1 := by rw [← hLs]; simp
  rw [hLs, ← hLs1] at hro7
  obtain ⟨g, cc, rfl, hgb, hgl⟩ := hro7.form (by omega)
  have hLslt : Hid (∀ y ∈ Ls, y < 18446744073709551616) := Lib.hid (fun y hy => by
    rw [← hLs] at hy
    rcases List.mem_append.1 hy with h1 | h1
    · exact hL5lt.out y h1
    · rw [List.mem_singleton.1 h1]; exact hxm)
  have hcells : Hid (∀ i (hi : i < Ls.length), w7.cell? ⟨g, i, none⟩ = some (.int .u64 (Ls[i] : Nat))) := Lib.hid (fun i hi => by
    refine (hro7.cellAt i (by omega)).trans ?_
    rw [hsV, List.getElem?_map, List.getElem?_eq_getElem hi]
    rfl)
  have hn1 : Ls.length ≤ 1000001 := by omega
  have hn0 : 0 < Ls.length := by omega
  clear hro7 hg7 hLs hLs1 hro6H hL5lt hL5 hlen5 hn5 hgb hgl
  obtain ⟨ix, hix, hixe, hi1, hi2⟩ := idx_any a Ls.length hn0
  have hc1 := hcells.out ix hix
  obtain ⟨hh, hhe⟩ : ∃ hh, Ls[ix] = hh := ⟨_, rfl⟩
  rw [hhe] at hc1
  have hhlt : hh < 18446744073709551616 := hhe ▸ hLslt.out _ (List.getElem_mem hix)
  obtain ⟨nd, hnd⟩ : ∃ nd, nodeG R5 hh = nd := ⟨_, rfl⟩
  obtain ⟨ee, hee⟩ : ∃ ee, nodeE R5 hh = ee := ⟨_, rfl⟩
  have hndok := Lib.hid (hnd ▸ hok5.out hh)
  have hG := Lib.hid (hG5.out w7 hb7.out hh hhlt nd hnd ee hee)
  clear hhe hnd hG5 hok5 hee
  go_wp2_with fail
  refine hG.out.mono ?_
  rintro e w8 ⟨rfl, hb8⟩
  have hb8H := Lib.hid (hb7.out.trans (hb8.mono hb7.out.size))
  have hb78 := Lib.hid hb8
  have hbx8 : Hid (Box w8 w.heap.size 54 [Value.int IntKind.u64 (x.key : Nat), Value.int IntKind.u64 (x.val : Nat), Value.int IntKind.u64 (x.left : Nat), Value.int IntKind.u64 (x.right : Nat), Value.int IntKind.u64 (x.mark : Nat), Value.int IntKind.u64 (x.size : Nat)]) := Lib.hid (hbxH.out.below (hb5H.out.trans (hb8H.out.mono hb5H.out.size)))
  have hlx8 : w.heap.size < w8.heap.size := hbx8.out.lt
  have hbw8 := Lib.hid (hb0H.out.trans ((hb5H.out.trans (hb8H.out.mono hb5H.out.size)).mono hb0H.out.size))
  have hwx : w.heap.size < W0.heap.size := hbxH.out.lt
  have hz8 : w7.heap.size ≤ w8.heap.size := hb8.size
  clear hb8 hc1 hi1 hi2 hixe hG
  have q0 := hbx8.out.at' (i := 0) rfl
  have q1 := hbx8.out.at' (i := 1) rfl
  have q2 := hbx8.out.at' (i := 2) rfl
  have q3 := hbx8.out.at' (i := 3) rfl
  have q4 := hbx8.out.at' (i := 4) rfl
  have q5 := hbx8.out.at' (i := 5) rfl
  cases sd with
  | false =>
    obtain ⟨w9, hw9⟩ : ∃ W, W = (w8.alloc (Obj.cells #[Value.int IntKind.u64 (nd.key : Nat), Value.int IntKind.u64 (nd.val : Nat), Value.int IntKind.u64 (nd.left : Nat), Value.int IntKind.u64 (nd.right : Nat), Value.int IntKind.u64 (nd.mark : Nat), Value.int IntKind.u64 (nd.size : Nat)] 54)) := ⟨_, rfl⟩
    have hb9 : Below w8.heap.size w8 w9 := by rw [hw9]; exact (Below.refl _ w8).alloc (Nat.le_refl _) _
    have hput := nput_any ((hS5H.out.below hb8H.out).below hb9) hh hhlt x hxok.out
    have hbwW := Lib.hid (hbw8.out.trans (hb9.mono hbw8.out.size))
    have hw9H := Lib.hid hw9
    clear hb9 hw9
    go_wp2_with fail
    clear q0 q1 q2 q3 q4 q5
    rw [← hw9H.out]
    unfold Nd.v at hput
    have hputH := Lib.hid hput
    clear hput
    refine hputH.out.mono ?_
    rintro e w6 ⟨rfl, hS6, hT6⟩
    obtain ⟨R6, hR6⟩ : ∃ R6, R6 = (if nodeE R5 hh = 0 then updR R5 hh (some (x : Nd).ws) else R5) := ⟨_, rfl⟩
    have hsh6 : Short R6 := by
      rw [hR6]
      split
      · exact hsh5.out.upd hh (some (x : Nd).ws) (fun ws e => by cases e; simp [Nd.ws])
      · exact hsh5.out
    rw [← hR6] at hS6
    obtain ⟨n6, hrd6, -⟩ := hS6.rd
    have hbw6 := Lib.hid (hbwW.out.trans (hT6.to_below hbwW.out.size hF5.out))
    have hAl := Lib.hid (sall_at hS6)
    have hCk := Lib.hid (fun W (hb : Below w6.heap.size w6 W) => avCheck_at (hrd6.below hb) hsh6 rt hrt)
    have hLs := Lib.hid (fun W (hb : Below w6.heap.size w6 W) => list_at (hrd6.below hb) rt hrt)
    have hG6 := Lib.hid (fun W (hb : Below w6.heap.size w6 W) y hy nd hnd hz => nget_lit (hrd6.below hb) y hy nd hnd 0 hz)
    have hHt := Lib.hid (fun W (hb : Below w6.heap.size w6 W) y hy => avHeight_at (hrd6.below hb) y hy)
    have hok6 := Lib.hid (fun y => hrd6.nodeG y)
    have hLen := inR_len R6 n6 rt
    have hle6 := hrd6.le
    have hLlt := Lib.hid (fun y (hy : y ∈ inR R6 n6 rt) => inR_lt (fun z => hrd6.nodeG z) hrt y hy)
    have hcok := Lib.hid (fun h0 => acheck_ok (R := R6) (n := n6) (root := rt) h0 (hrd6.nodeG rt).size hle6)
    have hval := Lib.hid (acheck_val R6 n6 rt)
    have hS6H := Lib.hid hS6
    generalize inR R6 n6 rt = L at *
    generalize acheckR R6 n6 rt = C at *
    clear hS6 hT6 hrd6 hsh6 hR6 hputH
    go_wp2_with fail
    refine hAl.out.mono ?_
    rintro e w7 ⟨v7, Hs, rfl, hpm7, hro7, hb7⟩
    obtain ⟨A7, c7, rfl⟩ := ownsRow_form hro7
    have hb7H := Lib.hid hb7
    have hHl : Hid (H5.length = Hs.length) := Lib.hid (hpm7.length_eq).symm
    clear hb7 hro7 hpm7 hAl
    go_wp2_with fail
    refine (hCk.out _ hb7H.out).mono ?_
    rintro e w8 ⟨rfl, hb8⟩
    have hb8H := Lib.hid (hb7H.out.trans (hb8.mono hb7H.out.size))
    clear hb8 hCk
    rcases hval.out with hC0 | hC8
    · have hnode := Lib.hid (hcok.out hC0)
      subst hC0
      clear hval hcok
      go_wp2_with fail
      refine (hLs.out _ hb8H.out).mono ?_
      rintro e w10 ⟨v10, rfl, hro10, hb10⟩
      obtain ⟨A10, c10, rfl⟩ := ownsRow_form hro10
      have hb10H := Lib.hid (hb8H.out.trans (hb10.mono hb8H.out.size))
      have hcl : Hid (∀ i (hi : i < L.length), ∃ g, A10 = some ⟨g, 0, none⟩ ∧ ∀ W F', Turn w10 (fun _ => False) W F' → W.cell? ⟨g, i, none⟩ = some (.int .u64 (L[i] : Nat))) := Lib.hid (fun i hi => row_off hro10 (fun b hb => hb.elim) hi (by rw [hsV, List.getElem?_map, List.getElem?_eq_getElem hi]; rfl))
      clear hb10 hro10 hLs
      go_wp2_with fail
      go_loopw [23] (fun iv wr => ∃ k : Nat, k ≤ L.length ∧ iv = .int .i64 k ∧ Hid (Below w10.heap.size w10 wr)) (fun iv _ => L.length - (intOf iv).toNat)
      case atStart => exact ⟨0, by omega, rfl, Lib.hid (Below.refl _ _)⟩
      case round =>
        obtain ⟨k, hk9, rfl, hbr⟩ := hrel
        by_cases hlt : k < L.length
        · obtain ⟨g9, hA9, hg9⟩ := hcl.out k hlt
          have hc9 := hg9 wr _ (Turn.below hbr.out)
          have hbr6 := Lib.hid (hb10H.out.trans (hbr.out.mono hb10H.out.size))
          obtain ⟨hy0, hyb⟩ := hnode.out L[k] (List.getElem_mem hlt)
          have hylt := hLlt.out L[k] (List.getElem_mem hlt)
          have hnear := avBad_none hyb
          obtain ⟨y, hy⟩ : ∃ y, L[k] = y := ⟨_, rfl⟩
          simp only [hy] at hc9 hy0 hylt hnear
          obtain ⟨t, ht⟩ : ∃ t, nodeG R6 y = t := ⟨_, rfl⟩
          have hokt := hok6.out y
          rw [ht] at hnear hokt
          have hGk := Lib.hid (hG6.out wr hbr6.out y hylt t ht hy0)
          have hoktH := Lib.hid hokt
          have hAL := Lib.hid (fun W hb => hHt.out W hb t.left hokt.left)
          have hAR := Lib.hid (fun W hb => hHt.out W hb t.right hokt.right)
          generalize avH R6 t.left = ha at *
          generalize avH R6 t.right = hb at *
          have q1 : ((wrap64 (t.mark : Nat)) != wrap64 (max ha hb + 1)) = false := by rw [hnear.1]; simp
          have q2 : decide ((1 : Int) < wrap64 (ha - hb)) = false := decide_eq_false (by have := hnear.2; unfold wrap64; omega)
          have q3 : decide ((1 : Int) < wrap64 (hb - ha)) = false := decide_eq_false (by have := hnear.2; unfold wrap64; omega)
          subst hA9
          clear hg9 hy0 hyb hnear hy ht hokt
          go_wp2_with fail
          refine hGk.out.mono ?_
          rintro e w12 ⟨rfl, hb12⟩
          have hb12H := Lib.hid (hbr.out.trans (hb12.mono hbr.out.size))
          have hz12 := hb12H.out.size
          clear hb12 hc9 hGk
          go_wp2_with fail
          obtain ⟨W3, hW⟩ : ∃ W, W = w12.alloc (Obj.cells #[Value.int IntKind.u64 (t.key : Nat), Value.int IntKind.u64 (t.val : Nat), Value.int IntKind.u64 (t.left : Nat), Value.int IntKind.u64 (t.right : Nat), Value.int IntKind.u64 (t.mark : Nat), Value.int IntKind.u64 (t.size : Nat)] 54) := ⟨_, rfl⟩
          obtain ⟨b3, hb3e⟩ : ∃ b, b = w12.heap.size := ⟨_, rfl⟩
          have hX3 : Hid (Box W3 b3 54 [Value.int IntKind.u64 (t.key : Nat), Value.int IntKind.u64 (t.val : Nat), Value.int IntKind.u64 (t.left : Nat), Value.int IntKind.u64 (t.right : Nat), Value.int IntKind.u64 (t.mark : Nat), Value.int IntKind.u64 (t.size : Nat)]) := Lib.hid (by rw [hW, hb3e]; exact Box.new w12 54 [Value.int IntKind.u64 (t.key : Nat), Value.int IntKind.u64 (t.val : Nat), Value.int IntKind.u64 (t.left : Nat), Value.int IntKind.u64 (t.right : Nat), Value.int IntKind.u64 (t.mark : Nat), Value.int IntKind.u64 (t.size : Nat)])
          have hBr3 : Hid (Below w10.heap.size w10 W3) := Lib.hid (by rw [hW]; exact hb12H.out.alloc hz12 _)
          rw [← hW, ← hb3e]
          clear hW hb3e hz12 hb12H
          have c2 := fun X : Bel W3 => X.cell (hX3.out.at' (i := 2) rfl)
          have c3 := fun X : Bel W3 => X.cell (hX3.out.at' (i := 3) rfl)
          refine wp_region_row (fun w' => ∃ X : Bel W3, w' = X.W) [0, 1, 2, 4, 5, 6] [3, 7, 8, 9] hmo (by kernel_rfl) rfl (by kernel_rfl) (Bel.start _) (fun _ _ d _ _ h => by cases d <;> exact h) ?_
          refine wpReads_step _ _ rfl rfl (by rintro _ ⟨X, rfl⟩; go_simp; exact rfl) ?_
          go_simp
          refine wpReads_step _ _ rfl rfl (by rintro _ ⟨X, rfl⟩; go_simp; exact rfl) ?_
          go_simp
          refine wpReads_step _ _ rfl rfl (by rintro _ ⟨X, rfl⟩; go_simp; exact rfl) ?_
          go_simp
          refine wpReads_step _ _ rfl rfl (by rintro _ ⟨X, rfl⟩; go_simp; exact rfl) ?_
          go_simp
          refine wpReads_step _ _ rfl rfl (by rintro _ ⟨X, rfl⟩; go_simp; exact rfl) ?_
          go_simp
          refine wpReads_step _ _ rfl rfl (by rintro _ ⟨X, rfl⟩; go_simp; exact rfl) ?_
          go_simp
          refine wpReads_nil ?_
          clear c2 c3
          have hbd4 : Hid (Below w6.heap.size w6 W3.drew) := Lib.hid (hb10H.out.trans ((hBr3.out.trans ((below_drawn W3).mono hBr3.out.size)).mono hb10H.out.size))
          refine wpActs_step _ rfl (fun K1 hK1 => ?_)
          go_wp2_with fail
          refine (hAL.out _ hbd4.out).mono ?_
          rintro e w14 ⟨rfl, hb14⟩
          have hb14H := Lib.hid (hbd4.out.trans (hb14.mono hbd4.out.size))
          have hk14 : Hid (Below W3.heap.size W3 w14) := Lib.hid ((below_drawn W3).trans hb14)
          clear hb14
          go_wp2
          refine hK1 _ _ ⟨⟨w14, hk14.out⟩, rfl⟩ ?_
          clear hK1 K1
          refine wpActs_step _ rfl (fun K2 hK2 => ?_)
          go_wp2_with fail
          refine (hAR.out _ hb14H.out).mono ?_
          rintro e w15 ⟨rfl, hb15⟩
          have hk15 : Hid (Below W3.heap.size W3 w15) := Lib.hid (hk14.out.trans (hb15.mono hk14.out.size))
          clear hb15
          go_wp2
          refine hK2 _ _ ⟨⟨w15, hk15.out⟩, rfl⟩ ?_
          clear hK2 K2
          refine wpActs_step _ rfl (fun K3 hK3 => ?_)
          go_wp2
          refine hK3 _ _ ⟨⟨w15, hk15.out⟩, rfl⟩ ?_
          clear hK3 K3
          refine wpActs_step _ rfl (fun K4 hK4 => ?_)
          go_wp2
          refine hK4 _ _ ⟨⟨w15, hk15.out⟩, rfl⟩ ?_
          clear hK4 K4
          refine wpActs_nil ?_
          have c4 := (hX3.out.below hk15.out).at' (i := 4) rfl
          have hBr5 := Lib.hid (hBr3.out.trans (hk15.out.mono hBr3.out.size))
          clear hX3 hk14 hk15 hb14H hbd4 hAL hAR
          go_wp2
          go_roundw
          case rel => exact ⟨k + 1, by omega, by go_num, hBr5⟩
          case measure => simp [intOf]; omega
        · obtain rfl : k = L.length := by omega
          have hbr6 := Lib.hid (hb10H.out.trans (hbr.out.mono hb10H.out.size))
          have hS7 := hS6H.out.below hbr6.out
          have hJ1 := Lib.hid (avTop_at hS7 rt xm 0 hrt hxm (by omega))
          clear hS7
          go_wp2_with fail
          refine hJ1.out.mono ?_
          rintro e w20 ⟨rfl, hS8, hT8⟩
          have hT8H := Lib.hid ((Turn.below (F := F5) hbr6.out).trans hT8)
          have hJ2 := Lib.hid (avTop_at hS8 hh xm rt hhlt hxm hrt)
          generalize avTop R6 rt xm 0 = pj at *
          clear hS8 hT8 hJ1
          go_wp2_with fail
          refine hJ2.out.mono ?_
          rintro e w21 ⟨rfl, hS9, hT9⟩
          have hT9H := Lib.hid (hT8H.out.trans hT9)
          have hAl2 := Lib.hid (sall_at hS9)
          generalize avTop pj.1 hh xm rt = pk at *
          clear hS9 hT9 hJ2
          go_wp2_with fail
          refine hAl2.out.mono ?_
          rintro e w22 ⟨v22, Hs2, rfl, hpm22, hro22, hb22⟩
          obtain ⟨A22, c22, rfl⟩ := ownsRow_form hro22
          have hlen22 : Hs2.length = Hs.length := by rw [hpm22.length_eq, hHl.out]
          rw [hlen22]
          have e4 : ((Hs.length : Int) == (Hs.length : Int)) = true := by simp
          have hbw22 := Lib.hid (hbw6.out.trans ((hT9H.out.to_below hbw6.out.size hF5.out).trans (hb22.mono (Nat.le_trans hbw6.out.size hT9H.out.size))))
          have hAw := Lib.hid (awake12_at (hTw.out.below hbw22.out (tab_lt hTw.out)))
          clear hb22 hro22 hpm22 hlen22 hAl2
          go_wp2_with fail
          refine hAw.out.mono ?_
          rintro e w23 ⟨rfl, hb23⟩
          have hb23H := Lib.hid (hbw22.out.trans (hb23.mono hbw22.out.size))
          clear hb23
          go_wp2
          go_ret
          exact ⟨rfl, hb23H.out⟩
    · subst hC8
      clear hval hcok hLs
      have hS7 := hS6H.out.below hb8H.out
      have hJ1 := Lib.hid (avTop_at hS7 rt xm 0 hrt hxm (by omega))
      clear hS7
      go_wp2_with fail
      refine hJ1.out.mono ?_
      rintro e w20 ⟨rfl, hS8, hT8⟩
      have hT8H := Lib.hid ((Turn.below (F := F5) hb8H.out).trans hT8)
      have hJ2 := Lib.hid (avTop_at hS8 hh xm rt hhlt hxm hrt)
      generalize avTop R6 rt xm 0 = pj at *
      clear hS8 hT8 hJ1
      go_wp2_with fail
      refine hJ2.out.mono ?_
      rintro e w21 ⟨rfl, hS9, hT9⟩
      have hT9H := Lib.hid (hT8H.out.trans hT9)
      have hAl2 := Lib.hid (sall_at hS9)
      generalize avTop pj.1 hh xm rt = pk at *
      clear hS9 hT9 hJ2
      go_wp2_with fail
      refine hAl2.out.mono ?_
      rintro e w22 ⟨v22, Hs2, rfl, hpm22, hro22, hb22⟩
      obtain ⟨A22, c22, rfl⟩ := ownsRow_form hro22
      have hlen22 : Hs2.length = Hs.length := by rw [hpm22.length_eq, hHl.out]
      rw [hlen22]
      have e4 : ((Hs.length : Int) == (Hs.length : Int)) = true := by simp
      have hbw22 := Lib.hid (hbw6.out.trans ((hT9H.out.to_below hbw6.out.size hF5.out).trans (hb22.mono (Nat.le_trans hbw6.out.size hT9H.out.size))))
      have hAw := Lib.hid (awake12_at (hTw.out.below hbw22.out (tab_lt hTw.out)))
      clear hb22 hro22 hpm22 hlen22 hAl2
      go_wp2_with fail
      refine hAw.out.mono ?_
      rintro e w23 ⟨rfl, hb23⟩
      have hb23H := Lib.hid (hbw22.out.trans (hb23.mono hbw22.out.size))
      clear hb23
      go_wp2
      go_ret
      exact ⟨rfl, hb23H.out⟩
  | true =>
    obtain ⟨jx, hjx, hjxe, hj1, hj2⟩ := idx_any a2 Ls.length hn0
    have hcj : (w8.cell? ⟨g, jx, none⟩) = some (.int .u64 (Ls[jx] : Nat)) := (hb78.out.cell (p := ⟨g, jx, none⟩) (cell_lt (hcells.out jx hjx))).trans (hcells.out jx hjx)
    obtain ⟨y, hy⟩ : ∃ y, Ls[jx] = y := ⟨_, rfl⟩
    rw [hy] at hcj
    have hylt : y < 18446744073709551616 := hy ▸ hLslt.out _ (List.getElem_mem hjx)
    have hb9 : Below w8.heap.size w8 (w8.alloc (Obj.cells #[Value.int IntKind.u64 (nd.key : Nat), Value.int IntKind.u64 (nd.val : Nat), Value.int IntKind.u64 (nd.left : Nat), Value.int IntKind.u64 (nd.right : Nat), Value.int IntKind.u64 (nd.mark : Nat), Value.int IntKind.u64 (nd.size : Nat)] 54)) := (Below.refl _ w8).alloc (Nat.le_refl _) _
    have hcj9 := (hb9.cell (p := ⟨g, jx, none⟩) (cell_lt hcj)).trans hcj
    have f0 := hbx8.out.free 0
    have f1 := hbx8.out.free 1
    have f2 := hbx8.out.free 2
    have f3 := hbx8.out.free 3
    have f4 := hbx8.out.free 4
    have f5 := hbx8.out.free 5
    have hxn : (Nd.mk nd.key nd.val nd.left y nd.mark nd.size).Ok := ⟨hndok.out.key, hndok.out.val, hndok.out.left, hylt, hndok.out.mark, hndok.out.size⟩
    obtain ⟨W5, hW5⟩ : ∃ W5, W5 = (setSix w8 w.heap.size (Value.int IntKind.u64 (nd.key : Nat)) (Value.int IntKind.u64 (nd.val : Nat)) (Value.int IntKind.u64 (nd.left : Nat)) (Value.int IntKind.u64 (y : Nat)) (Value.int IntKind.u64 (nd.mark : Nat)) (Value.int IntKind.u64 (nd.size : Nat))) := ⟨_, rfl⟩
    have hkb : KB (fun k => k = w.heap.size) w8 W5 := by rw [hW5]; exact setSix_kb _ _ _ _ _ _ _ _
    have hS5' := Lib.hid ((hS5H.out.below hb8H.out).kb hkb (fun k hk hF => by have := hF5W.out k hF; omega) (by have := hs3W.out; omega) (fun k hk p e => by rw [hk, q0] at e; cases e) (by have := tab_lt hTw.out; omega))
    have hbw5 : Hid (Below w.heap.size w W5) := Lib.hid (by rw [hW5]; exact setSix_below hbw8.out (Nat.le_refl _) _ _ _ _ _ _)
    have hW5H := Lib.hid hW5
    clear hb9 hy hkb hW5
    go_wp2_with fail
    clear f0 f1 f2 f3 f4 f5 q0 q1 q2 q3 q4 q5
    rw [setSix_eq, ← hW5H.out]
    have hb56 : Below W5.heap.size W5 (W5.alloc (Obj.cells #[Value.int IntKind.u64 (nd.key : Nat), Value.int IntKind.u64 (nd.val : Nat), Value.int IntKind.u64 (nd.left : Nat), Value.int IntKind.u64 (y : Nat), Value.int IntKind.u64 (nd.mark : Nat), Value.int IntKind.u64 (nd.size : Nat)] 54)) := (Below.refl _ _).alloc (Nat.le_refl _) _
    have hput := nput_any (hS5'.out.below hb56) hh hhlt ⟨nd.key, nd.val, nd.left, y, nd.mark, nd.size⟩ hxn
    have hbwW := Lib.hid (hbw5.out.trans (hb56.mono hbw5.out.size))
    clear hb56
    unfold Nd.v at hput
    have hputH := Lib.hid hput
    clear hput
    refine hputH.out.mono ?_
    rintro e w6 ⟨rfl, hS6, hT6⟩
    obtain ⟨R6, hR6⟩ : ∃ R6, R6 = (if nodeE R5 hh = 0 then updR R5 hh (some (Nd.mk nd.key nd.val nd.left y nd.mark nd.size : Nd).ws) else R5) := ⟨_, rfl⟩
    have hsh6 : Short R6 := by
      rw [hR6]
      split
      · exact hsh5.out.upd hh (some (Nd.mk nd.key nd.val nd.left y nd.mark nd.size : Nd).ws) (fun ws e => by cases e; simp [Nd.ws])
      · exact hsh5.out
    rw [← hR6] at hS6
    obtain ⟨n6, hrd6, -⟩ := hS6.rd
    have hbw6 := Lib.hid (hbwW.out.trans (hT6.to_below hbwW.out.size hF5.out))
    have hAl := Lib.hid (sall_at hS6)
    have hCk := Lib.hid (fun W (hb : Below w6.heap.size w6 W) => avCheck_at (hrd6.below hb) hsh6 rt hrt)
    have hLs := Lib.hid (fun W (hb : Below w6.heap.size w6 W) => list_at (hrd6.below hb) rt hrt)
    have hG6 := Lib.hid (fun W (hb : Below w6.heap.size w6 W) y hy nd hnd hz => nget_lit (hrd6.below hb) y hy nd hnd 0 hz)
    have hHt := Lib.hid (fun W (hb : Below w6.heap.size w6 W) y hy => avHeight_at (hrd6.below hb) y hy)
    have hok6 := Lib.hid (fun y => hrd6.nodeG y)
    have hLen := inR_len R6 n6 rt
    have hle6 := hrd6.le
    have hLlt := Lib.hid (fun y (hy : y ∈ inR R6 n6 rt) => inR_lt (fun z => hrd6.nodeG z) hrt y hy)
    have hcok := Lib.hid (fun h0 => acheck_ok (R := R6) (n := n6) (root := rt) h0 (hrd6.nodeG rt).size hle6)
    have hval := Lib.hid (acheck_val R6 n6 rt)
    have hS6H := Lib.hid hS6
    generalize inR R6 n6 rt = L at *
    generalize acheckR R6 n6 rt = C at *
    clear hS6 hT6 hrd6 hsh6 hR6 hputH
    go_wp2_with fail
    refine hAl.out.mono ?_
    rintro e w7 ⟨v7, Hs, rfl, hpm7, hro7, hb7⟩
    obtain ⟨A7, c7, rfl⟩ := ownsRow_form hro7
    have hb7H := Lib.hid hb7
    have hHl : Hid (H5.length = Hs.length) := Lib.hid (hpm7.length_eq).symm
    clear hb7 hro7 hpm7 hAl
    go_wp2_with fail
    refine (hCk.out _ hb7H.out).mono ?_
    rintro e w8 ⟨rfl, hb8⟩
    have hb8H := Lib.hid (hb7H.out.trans (hb8.mono hb7H.out.size))
    clear hb8 hCk
    rcases hval.out with hC0 | hC8
    · have hnode := Lib.hid (hcok.out hC0)
      subst hC0
      clear hval hcok
      go_wp2_with fail
      refine (hLs.out _ hb8H.out).mono ?_
      rintro e w10 ⟨v10, rfl, hro10, hb10⟩
      obtain ⟨A10, c10, rfl⟩ := ownsRow_form hro10
      have hb10H := Lib.hid (hb8H.out.trans (hb10.mono hb8H.out.size))
      have hcl : Hid (∀ i (hi : i < L.length), ∃ g, A10 = some ⟨g, 0, none⟩ ∧ ∀ W F', Turn w10 (fun _ => False) W F' → W.cell? ⟨g, i, none⟩ = some (.int .u64 (L[i] : Nat))) := Lib.hid (fun i hi => row_off hro10 (fun b hb => hb.elim) hi (by rw [hsV, List.getElem?_map, List.getElem?_eq_getElem hi]; rfl))
      clear hb10 hro10 hLs
      go_wp2_with fail
      go_loopw [23] (fun iv wr => ∃ k : Nat, k ≤ L.length ∧ iv = .int .i64 k ∧ Hid (Below w10.heap.size w10 wr)) (fun iv _ => L.length - (intOf iv).toNat)
      case atStart => exact ⟨0, by omega, rfl, Lib.hid (Below.refl _ _)⟩
      case round =>
        obtain ⟨k, hk9, rfl, hbr⟩ := hrel
        by_cases hlt : k < L.length
        · obtain ⟨g9, hA9, hg9⟩ := hcl.out k hlt
          have hc9 := hg9 wr _ (Turn.below hbr.out)
          have hbr6 := Lib.hid (hb10H.out.trans (hbr.out.mono hb10H.out.size))
          obtain ⟨hy0, hyb⟩ := hnode.out L[k] (List.getElem_mem hlt)
          have hylt := hLlt.out L[k] (List.getElem_mem hlt)
          have hnear := avBad_none hyb
          obtain ⟨y, hy⟩ : ∃ y, L[k] = y := ⟨_, rfl⟩
          simp only [hy] at hc9 hy0 hylt hnear
          obtain ⟨t, ht⟩ : ∃ t, nodeG R6 y = t := ⟨_, rfl⟩
          have hokt := hok6.out y
          rw [ht] at hnear hokt
          have hGk := Lib.hid (hG6.out wr hbr6.out y hylt t ht hy0)
          have hoktH := Lib.hid hokt
          have hAL := Lib.hid (fun W hb => hHt.out W hb t.left hokt.left)
          have hAR := Lib.hid (fun W hb => hHt.out W hb t.right hokt.right)
          generalize avH R6 t.left = ha at *
          generalize avH R6 t.right = hb at *
          have q1 : ((wrap64 (t.mark : Nat)) != wrap64 (max ha hb + 1)) = false := by rw [hnear.1]; simp
          have q2 : decide ((1 : Int) < wrap64 (ha - hb)) = false := decide_eq_false (by have := hnear.2; unfold wrap64; omega)
          have q3 : decide ((1 : Int) < wrap64 (hb - ha)) = false := decide_eq_false (by have := hnear.2; unfold wrap64; omega)
          subst hA9
          clear hg9 hy0 hyb hnear hy ht hokt
          go_wp2_with fail
          refine hGk.out.mono ?_
          rintro e w12 ⟨rfl, hb12⟩
          have hb12H := Lib.hid (hbr.out.trans (hb12.mono hbr.out.size))
          have hz12 := hb12H.out.size
          clear hb12 hc9 hGk
          go_wp2_with fail
          obtain ⟨W3, hW⟩ : ∃ W, W = w12.alloc (Obj.cells #[Value.int IntKind.u64 (t.key : Nat), Value.int IntKind.u64 (t.val : Nat), Value.int IntKind.u64 (t.left : Nat), Value.int IntKind.u64 (t.right : Nat), Value.int IntKind.u64 (t.mark : Nat), Value.int IntKind.u64 (t.size : Nat)] 54) := ⟨_, rfl⟩
          obtain ⟨b3, hb3e⟩ : ∃ b, b = w12.heap.size := ⟨_, rfl⟩
          have hX3 : Hid (Box W3 b3 54 [Value.int IntKind.u64 (t.key : Nat), Value.int IntKind.u64 (t.val : Nat), Value.int IntKind.u64 (t.left : Nat), Value.int IntKind.u64 (t.right : Nat), Value.int IntKind.u64 (t.mark : Nat), Value.int IntKind.u64 (t.size : Nat)]) := Lib.hid (by rw [hW, hb3e]; exact Box.new w12 54 [Value.int IntKind.u64 (t.key : Nat), Value.int IntKind.u64 (t.val : Nat), Value.int IntKind.u64 (t.left : Nat), Value.int IntKind.u64 (t.right : Nat), Value.int IntKind.u64 (t.mark : Nat), Value.int IntKind.u64 (t.size : Nat)])
          have hBr3 : Hid (Below w10.heap.size w10 W3) := Lib.hid (by rw [hW]; exact hb12H.out.alloc hz12 _)
          rw [← hW, ← hb3e]
          clear hW hb3e hz12 hb12H
          have c2 := fun X : Bel W3 => X.cell (hX3.out.at' (i := 2) rfl)
          have c3 := fun X : Bel W3 => X.cell (hX3.out.at' (i := 3) rfl)
          refine wp_region_row (fun w' => ∃ X : Bel W3, w' = X.W) [0, 1, 2, 4, 5, 6] [3, 7, 8, 9] hmo (by kernel_rfl) rfl (by kernel_rfl) (Bel.start _) (fun _ _ d _ _ h => by cases d <;> exact h) ?_
          refine wpReads_step _ _ rfl rfl (by rintro _ ⟨X, rfl⟩; go_simp; exact rfl) ?_
          go_simp
          refine wpReads_step _ _ rfl rfl (by rintro _ ⟨X, rfl⟩; go_simp; exact rfl) ?_
          go_simp
          refine wpReads_step _ _ rfl rfl (by rintro _ ⟨X, rfl⟩; go_simp; exact rfl) ?_
          go_simp
          refine wpReads_step _ _ rfl rfl (by rintro _ ⟨X, rfl⟩; go_simp; exact rfl) ?_
          go_simp
          refine wpReads_step _ _ rfl rfl (by rintro _ ⟨X, rfl⟩; go_simp; exact rfl) ?_
          go_simp
          refine wpReads_step _ _ rfl rfl (by rintro _ ⟨X, rfl⟩; go_simp; exact rfl) ?_
          go_simp
          refine wpReads_nil ?_
          clear c2 c3
          have hbd4 : Hid (Below w6.heap.size w6 W3.drew) := Lib.hid (hb10H.out.trans ((hBr3.out.trans ((below_drawn W3).mono hBr3.out.size)).mono hb10H.out.size))
          refine wpActs_step _ rfl (fun K1 hK1 => ?_)
          go_wp2_with fail
          refine (hAL.out _ hbd4.out).mono ?_
          rintro e w14 ⟨rfl, hb14⟩
          have hb14H := Lib.hid (hbd4.out.trans (hb14.mono hbd4.out.size))
          have hk14 : Hid (Below W3.heap.size W3 w14) := Lib.hid ((below_drawn W3).trans hb14)
          clear hb14
          go_wp2
          refine hK1 _ _ ⟨⟨w14, hk14.out⟩, rfl⟩ ?_
          clear hK1 K1
          refine wpActs_step _ rfl (fun K2 hK2 => ?_)
          go_wp2_with fail
          refine (hAR.out _ hb14H.out).mono ?_
          rintro e w15 ⟨rfl, hb15⟩
          have hk15 : Hid (Below W3.heap.size W3 w15) := Lib.hid (hk14.out.trans (hb15.mono hk14.out.size))
          clear hb15
          go_wp2
          refine hK2 _ _ ⟨⟨w15, hk15.out⟩, rfl⟩ ?_
          clear hK2 K2
          refine wpActs_step _ rfl (fun K3 hK3 => ?_)
          go_wp2
          refine hK3 _ _ ⟨⟨w15, hk15.out⟩, rfl⟩ ?_
          clear hK3 K3
          refine wpActs_step _ rfl (fun K4 hK4 => ?_)
          go_wp2
          refine hK4 _ _ ⟨⟨w15, hk15.out⟩, rfl⟩ ?_
          clear hK4 K4
          refine wpActs_nil ?_
          have c4 := (hX3.out.below hk15.out).at' (i := 4) rfl
          have hBr5 := Lib.hid (hBr3.out.trans (hk15.out.mono hBr3.out.size))
          clear hX3 hk14 hk15 hb14H hbd4 hAL hAR
          go_wp2
          go_roundw
          case rel => exact ⟨k + 1, by omega, by go_num, hBr5⟩
          case measure => simp [intOf]; omega
        · obtain rfl : k = L.length := by omega
          have hbr6 := Lib.hid (hb10H.out.trans (hbr.out.mono hb10H.out.size))
          have hS7 := hS6H.out.below hbr6.out
          have hJ1 := Lib.hid (avTop_at hS7 rt xm 0 hrt hxm (by omega))
          clear hS7
          go_wp2_with fail
          refine hJ1.out.mono ?_
          rintro e w20 ⟨rfl, hS8, hT8⟩
          have hT8H := Lib.hid ((Turn.below (F := F5) hbr6.out).trans hT8)
          have hJ2 := Lib.hid (avTop_at hS8 hh xm rt hhlt hxm hrt)
          generalize avTop R6 rt xm 0 = pj at *
          clear hS8 hT8 hJ1
          go_wp2_with fail
          refine hJ2.out.mono ?_
          rintro e w21 ⟨rfl, hS9, hT9⟩
          have hT9H := Lib.hid (hT8H.out.trans hT9)
          have hAl2 := Lib.hid (sall_at hS9)
          generalize avTop pj.1 hh xm rt = pk at *
          clear hS9 hT9 hJ2
          go_wp2_with fail
          refine hAl2.out.mono ?_
          rintro e w22 ⟨v22, Hs2, rfl, hpm22, hro22, hb22⟩
          obtain ⟨A22, c22, rfl⟩ := ownsRow_form hro22
          have hlen22 : Hs2.length = Hs.length := by rw [hpm22.length_eq, hHl.out]
          rw [hlen22]
          have e4 : ((Hs.length : Int) == (Hs.length : Int)) = true := by simp
          have hbw22 := Lib.hid (hbw6.out.trans ((hT9H.out.to_below hbw6.out.size hF5.out).trans (hb22.mono (Nat.le_trans hbw6.out.size hT9H.out.size))))
          have hAw := Lib.hid (awake12_at (hTw.out.below hbw22.out (tab_lt hTw.out)))
          clear hb22 hro22 hpm22 hlen22 hAl2
          go_wp2_with fail
          refine hAw.out.mono ?_
          rintro e w23 ⟨rfl, hb23⟩
          have hb23H := Lib.hid (hbw22.out.trans (hb23.mono hbw22.out.size))
          clear hb23
          go_wp2
          go_ret
          exact ⟨rfl, hb23H.out⟩
    · subst hC8
      clear hval hcok hLs
      have hS7 := hS6H.out.below hb8H.out
      have hJ1 := Lib.hid (avTop_at hS7 rt xm 0 hrt hxm (by omega))
      clear hS7
      go_wp2_with fail
      refine hJ1.out.mono ?_
      rintro e w20 ⟨rfl, hS8, hT8⟩
      have hT8H := Lib.hid ((Turn.below (F := F5) hb8H.out).trans hT8)
      have hJ2 := Lib.hid (avTop_at hS8 hh xm rt hhlt hxm hrt)
      generalize avTop R6 rt xm 0 = pj at *
      clear hS8 hT8 hJ1
      go_wp2_with fail
      refine hJ2.out.mono ?_
      rintro e w21 ⟨rfl, hS9, hT9⟩
      have hT9H := Lib.hid (hT8H.out.trans hT9)
      have hAl2 := Lib.hid (sall_at hS9)
      generalize avTop pj.1 hh xm rt = pk at *
      clear hS9 hT9 hJ2
      go_wp2_with fail
      refine hAl2.out.mono ?_
      rintro e w22 ⟨v22, Hs2, rfl, hpm22, hro22, hb22⟩
      obtain ⟨A22, c22, rfl⟩ := ownsRow_form hro22
      have hlen22 : Hs2.length = Hs.length := by rw [hpm22.length_eq, hHl.out]
      rw [hlen22]
      have e4 : ((Hs.length : Int) == (Hs.length : Int)) = true := by simp
      have hbw22 := Lib.hid (hbw6.out.trans ((hT9H.out.to_below hbw6.out.size hF5.out).trans (hb22.mono (Nat.le_trans hbw6.out.size hT9H.out.size))))
      have hAw := Lib.hid (awake12_at (hTw.out.below hbw22.out (tab_lt hTw.out)))
      clear hb22 hro22 hpm22 hlen22 hAl2
      go_wp2_with fail
      refine hAw.out.mono ?_
      rintro e w23 ⟨rfl, hb23⟩
      have hb23H := Lib.hid (hbw22.out.trans (hb23.mono hbw22.out.size))
      clear hb23
      go_wp2
      go_ret
      exact ⟨rfl, hb23H.out⟩
end Go.Proofs.YtoifdmbffaaffaaGreatDoor

/-
  The seat's own texts, what RedWrong wants besides: Nds, AvW4, AvW5, Hs, Wr13.
-/
import Derived.Test.YtjpmlneihbckpaaGreatDoorNd
import Derived.Laws.AppendOwnNone
import Derived.Maps.AppendAt
import Derived.Deep.AppendLies
import Derived.Laws.OwnMore
/- Slices of nodes by value: the laws that keep what nodes held. -/
set_option linter.unusedVariables false
set_option linter.unusedSimpArgs false
namespace Go.Proofs.YtjpmlneihbckpaaGreatDoor
open Go.RowKit Go.Shelf
def ndC (x : Nd) : List Value := [.int .u64 (x.key : Nat), .int .u64 (x.val : Nat), .int .u64 (x.left : Nat), .int .u64 (x.right : Nat), .int .u64 (x.mark : Nat), .int .u64 (x.size : Nat)]
def ndsV (l : List Nd) : List Value := l.flatMap ndC
theorem ndsV_len (l : List Nd) : (ndsV l).length = l.length * 6 := by
  induction l with
  | nil => rfl
  | cons p l ih => simp only [ndsV, ndC, List.flatMap_cons, List.length_append, List.length_cons, List.length_nil] at ih ⊢; omega
theorem ndsV_append (l m : List Nd) : ndsV (l ++ m) = ndsV l ++ ndsV m := by simp [ndsV]
theorem ndsV_at : ∀ (l : List Nd) (k : Nat) (h : k < l.length), (ndsV l)[k * 6]? = some (.int .u64 (l[k].key : Nat)) ∧ (ndsV l)[k * 6 + 1]? = some (.int .u64 (l[k].val : Nat))
  | p :: l, 0, _ => ⟨rfl, rfl⟩
  | p :: l, k + 1, h => by
    have := ndsV_at l k (by simpa using h)
    rw [show (k + 1) * 6 = k * 6 + 6 by omega]
    exact this
theorem ndC_one (x : Nd) : ∀ u ∈ ndC x, u.oneCell' = true := by
  intro u hu
  unfold ndC at hu
  simp only [List.mem_cons, List.not_mem_nil, or_false] at hu
  rcases hu with rfl | rfl | rfl | rfl | rfl | rfl <;> rfl
theorem Tryz.under_nodes : Tryz.prog.underlying 59 = some (.slice 53) := by kernel_rfl
theorem Tryz.info_node : (Tryz.prog.info? 53).map (fun i => (i.zero, i.size, i.bytes)) = some (some (.agg #[.int .u64 0, .int .u64 0, .int .u64 0, .int .u64 0, .int .u64 0, .int .u64 0]), 6, 48) := by kernel_rfl
/-- 'append(out, x)', out the call's own: x lies in a fresh block of one node -/
theorem app_nd {ops : Array Oper} {rest : List Oper} {o : Oper} {a : Act} {Q : Exit → Act → World → Prop} (hgd : o.guard = none) (s x : Operand)
    (ho : o.op = .call { callee := .builtin .append, args := #[s, x], argTypes := #[59, 59] }) (w : World) (base : Nat) (v : Value) (xs : List Nd) (hs : a.eval s = v)
    (hown : w.ownsRow base 53 6 v xs.length (ndsV xs)) (b : Nat) (y : Nd) (hx : a.eval x = .slice (some ⟨b, 0, none⟩) 1 1) (hr : ∀ j u, (ndC y)[j]? = some u → w.cell? ⟨b, j, none⟩ = some u) (hlen : xs.length ≤ 1000000) (hbase : base ≤ w.heap.size)
    (h : ∀ v' w', w'.ownsRow base 53 6 v' (xs ++ [y]).length (ndsV (xs ++ [y])) → w.grownBy w' v.ownBlock → (v'.ownBlock = v.ownBlock ∨ v'.ownBlock = some w.heap.size) → wpList Tryz.prog ops Q rest (a.put o.dst v') w') :
    wpList Tryz.prog ops Q (o :: rest) a w := by
  obtain ⟨i0, hi, hz0, hz1, hz2⟩ := info_parts Tryz.info_node
  have hcells : ∀ j u, (ndC y)[j]? = some u → w.cell? ((⟨b, 0, none⟩ : Addr).add j) = some u := by
    intro j u hu
    rw [show (⟨b, 0, none⟩ : Addr).add j = ⟨b, j, none⟩ by unfold Addr.add; split <;> simp_all]
    exact hr j u hu
  refine wpList_append_own_at w hgd s x 59 ho base 53 i0 _ 6 48 Tryz.under_nodes hi hz0 hz1 hz2 rfl (by decide) v xs.length (ndsV xs) hs hown ⟨b, 0, none⟩ 1 1 (ndC y) hx rfl hcells (ndC_one y) (by unfold maxLen; omega) (by omega) hbase ?_
  intro v' w' h1 h2 _ h4
  exact h v' w' (by rw [List.length_append, ndsV_append]; simpa [ndsV] using h1) h2 h4
theorem ownN_below {w w1 w2 : World} {base z : Nat} {e : TypeId} {n : Nat} {v : Value} {xs : List Value} (hb : Below base w w1) (hown : w1.ownsRow base e z v n xs) (hg : w1.grownBy w2 v.ownBlock) (hB : base ≤ w1.heap.size) : Below base w w2 :=
  hb.trans ⟨hg.os, hg.tape, hg.output, hg.size, fun k hk => hg.block k (by omega) (fun e => by
    rcases hown.2 with ⟨rfl, _⟩ | ⟨g, cap, cur, rfl, hge, _⟩
    · simp [Value.ownBlock] at e
    · have : k = g := by simpa [Value.ownBlock] using e
      omega)⟩
theorem ownN_form {w : World} {base z : Nat} {e : TypeId} {v : Value} {n : Nat} {xs : List Value} (h : w.ownsRow base e z v n xs) : ∃ A c, v = .slice A n c := by
  rcases h.2 with ⟨rfl, rfl⟩ | ⟨g, cap, cur, rfl, _⟩
  · exact ⟨none, 0, rfl⟩
  · exact ⟨_, _, rfl⟩
theorem ownN_keep {B : Nat} {e : TypeId} {k : Nat} {v : Value} {n : Nat} {xs : List Value} {w w' : World} (h : w.ownsRow B e k v n xs) (hb : Below w.heap.size w w') : w'.ownsRow B e k v n xs :=
  h.kept (row := none) ⟨hb.os, hb.tape, hb.output, hb.size, fun j hj _ => hb.block j hj⟩ (by cases hv : v.ownBlock <;> simp)
theorem nd_new (W : World) (y : Nd) (b : Nat) (hb : b = W.heap.size) (T : TypeId) (j : Nat) (u : Value) (h : (ndC y)[j]? = some u) : (W.alloc (.cells #[.int .u64 (y.key : Nat), .int .u64 (y.val : Nat), .int .u64 (y.left : Nat), .int .u64 (y.right : Nat), .int .u64 (y.mark : Nat), .int .u64 (y.size : Nat)] T)).cell? ⟨b, j, none⟩ = some u := by
  subst hb
  match j, h with
  | 0, h => exact (by go_simp : _ = some (Value.int .u64 (y.key : Nat))).trans h
  | 1, h => exact (by go_simp : _ = some (Value.int .u64 (y.val : Nat))).trans h
  | 2, h => exact (by go_simp : _ = some (Value.int .u64 (y.left : Nat))).trans h
  | 3, h => exact (by go_simp : _ = some (Value.int .u64 (y.right : Nat))).trans h
  | 4, h => exact (by go_simp : _ = some (Value.int .u64 (y.mark : Nat))).trans h
  | 5, h => exact (by go_simp : _ = some (Value.int .u64 (y.size : Nat))).trans h
  | j + 6, h => cases h
theorem BT.size_nil {t : BT} (h : t.size = 0) : t = .nil := by
  cases t with
  | nil => rfl
  | node y ky vy m k v l r => simp only [BT.size] at h; omega
theorem BT.hgt_one {t : BT} (h : t.size ≠ 0) : t.hgt ≠ 0 := by
  cases t with
  | nil => exact absurd rfl h
  | node y ky vy m k v l r => simp only [BT.hgt]; omega
theorem own_none (w : World) (base z : Nat) (e : TypeId) : w.ownsRow base e z (.slice none 0 0) 0 [] := ⟨by simp, .inl ⟨rfl, rfl⟩⟩
/-- a row of numbers that lies off F, through a call that turns F -/
theorem row_off {w : World} {base c n : Nat} {A : Option Addr} {e : TypeId} {xs : List Value} {F : Nat → Prop} (h : w.ownsRow base e 1 (.slice A n c) n xs) (hF : ∀ b, F b → b < base) {i : Nat} {u : Value} (hi : i < n) (hu : xs[i]? = some u) :
    ∃ g, A = some ⟨g, 0, none⟩ ∧ ∀ W F', Turn w F W F' → W.cell? ⟨g, i, none⟩ = some u := by
  obtain ⟨g, cap, hv, hb, _⟩ := h.form (by omega)
  cases hv
  refine ⟨g, rfl, fun W F' hT => ?_⟩
  refine hT.cell ((h.cellAt i (by omega)).trans hu) (fun hf => ?_)
  have := hF _ hf
  simp only at this
  omega
theorem nds_off {w : World} {base c n : Nat} {A : Option Addr} {xs : List Nd} {F : Nat → Prop} (h : w.ownsRow base 53 6 (.slice A n c) n (ndsV xs)) (hn : n = xs.length) (hF : ∀ b, F b → b < base) {i : Nat} (hi : i < xs.length) :
    ∃ g, A = some ⟨g, 0, none⟩ ∧ ∀ W F', Turn w F W F' → W.cell? ⟨g, i * 6, none⟩ = some (.int .u64 (xs[i].key : Nat)) ∧ W.cell? ⟨g, i * 6 + 1, none⟩ = some (.int .u64 (xs[i].val : Nat)) := by
  obtain ⟨g, cap, hv, hb, _⟩ := h.form (by omega)
  cases hv
  obtain ⟨e1, e2⟩ := ndsV_at xs i hi
  have hg : ¬ F g := fun hf => by have := hF _ hf; omega
  exact ⟨g, rfl, fun W F' hT => ⟨hT.cell ((h.cellAt _ (by omega)).trans e1) hg, hT.cell ((h.cellAt _ (by omega)).trans e2) hg⟩⟩
end Go.Proofs.YtjpmlneihbckpaaGreatDoor
/- The walks of package avl: join. -/
set_option linter.unusedVariables false
set_option linter.unusedSimpArgs false
namespace Go.Proofs.YtjpmlneihbckpaaGreatDoor
open Go.RowKit Go.Shelf
section
variable {s : Nat} {F : Nat → Prop} {H : List Nat} {P q most last G : Nat}
set_option maxHeartbeats 8000000 in
set_option maxRecDepth 100000 in
theorem avJoin_at (m : Nd) (hokm : m.Ok) (xm : Nat) (hxm : xm < 18446744073709551616) : ∀ (f : Nat) (w : World) (R : Nat → Option (List Nat)) (l r : Nat), f ≤ 100 → l < 18446744073709551616 → r < 18446744073709551616 → StoreIs w s F R H P q most last G →
    Calls Tryz.prog 148 #[.pointer (some ⟨s, 0, none⟩), .int .u64 (l : Nat), .int .u64 (r : Nat), treeV m xm, .int .i64 ((100 - f : Nat) : Int)] w fun e w' => e = .returned (.int .u64 ((avJoin m xm f R l r).2 : Nat)) ∧ (avJoin m xm f R l r).2 < 18446744073709551616 ∧ StoreIs w' s F (avJoin m xm f R l r).1 H P q most last G ∧ Turn w F w' F
  | 0, w, R, l, r, hf, hl, hr, h => by
    have hmo : Tryz.prog.follows .mixedOrders = true := by kernel_rfl
    obtain ⟨n, hrd, _⟩ := h.rd
    have hGt := Lib.hid (fun W (hb : Below w.heap.size w W) y (hy : y < 18446744073709551616) => by have := avGet_at (hrd.below hb) y hy; unfold treeV at this; exact this)
    have hHt := Lib.hid (fun W (hb : Below w.heap.size w W) y (hy : y < 18446744073709551616) => avHeight_at (hrd.below hb) y hy)
    have hokG := Lib.hid (fun y => hrd.nodeG y)
    have hHs := Lib.hid h
    have hFwH := Lib.hid (fun b (hf : F b) => h.lt hf)
    obtain ⟨W0, hW0⟩ : ∃ W, W = w.alloc (Obj.cells #[.int .u64 (m.key : Nat), .int .u64 (m.val : Nat), .int .u64 (m.left : Nat), .int .u64 (m.right : Nat), .int .u64 (m.mark : Nat), .int .u64 (m.size : Nat), .int .u64 (xm : Nat)] 224) := ⟨_, rfl⟩
    have hX0 : Hid (Box W0 w.heap.size 224 [.int .u64 (m.key : Nat), .int .u64 (m.val : Nat), .int .u64 (m.left : Nat), .int .u64 (m.right : Nat), .int .u64 (m.mark : Nat), .int .u64 (m.size : Nat), .int .u64 (xm : Nat)]) := Lib.hid (by rw [hW0]; exact Box.new w 224 [.int .u64 (m.key : Nat), .int .u64 (m.val : Nat), .int .u64 (m.left : Nat), .int .u64 (m.right : Nat), .int .u64 (m.mark : Nat), .int .u64 (m.size : Nat), .int .u64 (xm : Nat)])
    have hB0 : Hid (Below w.heap.size w W0) := Lib.hid (by rw [hW0]; exact (Below.refl _ w).alloc (Nat.le_refl _) _)
    have hFb0 : ¬ F w.heap.size := fun hf => by have := hFwH.out _ hf; omega
    have hW0H := Lib.hid hW0
    clear h hrd hW0
    have hv : avJoin m xm 0 R l r = (withR R m xm l r, xm) := rfl
    unfold treeV
    go_enter Tryz.func148, Tryz.ntmps148
    go_wp2_with fail
    rw [← hW0H.out]
    refine (hHt.out _ hB0.out l hl).mono ?_
    rintro e w1 ⟨rfl, hb1⟩
    have hb1H := Lib.hid (hB0.out.trans (hb1.mono hB0.out.size))
    have hX0b := Lib.hid (hX0.out.below hb1)
    clear hb1
    go_wp2_with fail
    refine (hHt.out _ hb1H.out r hr).mono ?_
    rintro e w2 ⟨rfl, hb2'⟩
    have hb2 := Lib.hid (hb1H.out.trans (hb2'.mono hb1H.out.size))
    have hX0' := Lib.hid (hX0b.out.below hb2')
    clear hb2' hb1H hX0b hX0 hB0 hW0H
    have hwt := with_at (hHs.out.below hb2.out) m hokm xm l r hxm hl hr
    unfold treeV at hwt
    have hwtH := Lib.hid hwt
    clear hwt
    have c0 := hX0'.out.at' (i := 0) rfl
    have c1 := hX0'.out.at' (i := 1) rfl
    have c2 := hX0'.out.at' (i := 2) rfl
    have c3 := hX0'.out.at' (i := 3) rfl
    have c4 := hX0'.out.at' (i := 4) rfl
    have c5 := hX0'.out.at' (i := 5) rfl
    have c6 := hX0'.out.at' (i := 6) rfl
    have hvH := Lib.hid hv
    clear hv
    go_wp2_with fail
    refine hwtH.out.mono ?_
    rintro e w4 ⟨rfl, hS4, hT4⟩
    have hS4H := Lib.hid hS4
    have hT4H := Lib.hid ((Turn.below (F := F) hb2.out).trans hT4)
    clear hS4 hT4 hwtH c0 c1 c2 c3 c4 c5 c6
    go_wp2
    go_ret
    rw [hvH.out]
    exact ⟨rfl, hxm, hS4H.out, hT4H.out⟩
  | f + 1, w, R, l, r, hf, hl, hr, h => by
    have ih := avJoin_at m hokm xm hxm f
    have hmo : Tryz.prog.follows .mixedOrders = true := by kernel_rfl
    obtain ⟨n, hrd, _⟩ := h.rd
    have hGt := Lib.hid (fun W (hb : Below w.heap.size w W) y (hy : y < 18446744073709551616) => by have := avGet_at (hrd.below hb) y hy; unfold treeV at this; exact this)
    have hHt := Lib.hid (fun W (hb : Below w.heap.size w W) y (hy : y < 18446744073709551616) => avHeight_at (hrd.below hb) y hy)
    have hokG := Lib.hid (fun y => hrd.nodeG y)
    have hHs := Lib.hid h
    have hFwH := Lib.hid (fun b (hf : F b) => h.lt hf)
    obtain ⟨W0, hW0⟩ : ∃ W, W = w.alloc (Obj.cells #[.int .u64 (m.key : Nat), .int .u64 (m.val : Nat), .int .u64 (m.left : Nat), .int .u64 (m.right : Nat), .int .u64 (m.mark : Nat), .int .u64 (m.size : Nat), .int .u64 (xm : Nat)] 224) := ⟨_, rfl⟩
    have hX0 : Hid (Box W0 w.heap.size 224 [.int .u64 (m.key : Nat), .int .u64 (m.val : Nat), .int .u64 (m.left : Nat), .int .u64 (m.right : Nat), .int .u64 (m.mark : Nat), .int .u64 (m.size : Nat), .int .u64 (xm : Nat)]) := Lib.hid (by rw [hW0]; exact Box.new w 224 [.int .u64 (m.key : Nat), .int .u64 (m.val : Nat), .int .u64 (m.left : Nat), .int .u64 (m.right : Nat), .int .u64 (m.mark : Nat), .int .u64 (m.size : Nat), .int .u64 (xm : Nat)])
    have hB0 : Hid (Below w.heap.size w W0) := Lib.hid (by rw [hW0]; exact (Below.refl _ w).alloc (Nat.le_refl _) _)
    have hFb0 : ¬ F w.heap.size := fun hf => by have := hFwH.out _ hf; omega
    have hW0H := Lib.hid hW0
    clear h hrd hW0
    obtain ⟨d, hd⟩ : ∃ d, 100 - (f + 1) = d := ⟨_, rfl⟩
    have hdn : Hid (((100 - f : Nat) : Int) = (d : Int) + 1) := Lib.hid (by omega)
    rw [hd]
    have hd2 : d < 100 := by omega
    have d0 : ((d : Int) == 100) = false := by simp; omega
    have hv : avJoin m xm (f + 1) R l r = if wrap64 (avH R r + 1) < avH R l then
          avBal (withR (avJoin m xm f R (nodeG R l).right r).1 (nodeG R l) l (nodeG R l).left (avJoin m xm f R (nodeG R l).right r).2) l
        else if wrap64 (avH R l + 1) < avH R r then
          avBal (withR (avJoin m xm f R l (nodeG R r).left).1 (nodeG R r) r (avJoin m xm f R l (nodeG R r).left).2 (nodeG R r).right) r
        else (withR R m xm l r, xm) := by rw [avJoin]
    clear hd
    unfold treeV
    go_enter Tryz.func148, Tryz.ntmps148
    go_wp2_with fail
    rw [← hW0H.out]
    refine (hHt.out _ hB0.out l hl).mono ?_
    rintro e w1 ⟨rfl, hb1⟩
    have hb1H := Lib.hid (hB0.out.trans (hb1.mono hB0.out.size))
    have hX0b := Lib.hid (hX0.out.below hb1)
    clear hb1
    go_wp2_with fail
    refine (hHt.out _ hb1H.out r hr).mono ?_
    rintro e w2 ⟨rfl, hb2'⟩
    have hb2 := Lib.hid (hb1H.out.trans (hb2'.mono hb1H.out.size))
    have hX0' := Lib.hid (hX0b.out.below hb2')
    clear hb2' hb1H hX0b hX0 hB0 hW0H
    by_cases q1 : wrap64 (avH R r + 1) < avH R l
    · have d1 : decide (wrap64 (avH R r + 1) < avH R l) = true := by simp; omega
      rw [if_pos q1] at hv
      have hg3 := hGt.out _ hb2.out l hl
      obtain ⟨t, ht⟩ : ∃ t, nodeG R l = t := ⟨_, rfl⟩
      rw [ht] at hg3 hv
      have hokt := hokG.out l
      rw [ht] at hokt
      have hoktH := Lib.hid hokt
      have hg3H := Lib.hid hg3
      clear hg3 hokt ht
      go_wp2_with fail
      refine hg3H.out.mono ?_
      rintro e w3 ⟨rfl, hb3⟩
      have hb3H := Lib.hid (hb2.out.trans (hb3.mono hb2.out.size))
      have hz3 := hb3H.out.size
      have hX0g := Lib.hid (hX0'.out.below hb3)
      clear hb3 hg3H
      go_wp2_with fail
      obtain ⟨W3, hW⟩ : ∃ W, W = w3.alloc (Obj.cells #[.int .u64 (t.key : Nat), .int .u64 (t.val : Nat), .int .u64 (t.left : Nat), .int .u64 (t.right : Nat), .int .u64 (t.mark : Nat), .int .u64 (t.size : Nat), .int .u64 (l : Nat)] 224) := ⟨_, rfl⟩
      obtain ⟨b3, hb⟩ : ∃ b, b = w3.heap.size := ⟨_, rfl⟩
      have hX3 : Hid (Box W3 b3 224 [.int .u64 (t.key : Nat), .int .u64 (t.val : Nat), .int .u64 (t.left : Nat), .int .u64 (t.right : Nat), .int .u64 (t.mark : Nat), .int .u64 (t.size : Nat), .int .u64 (l : Nat)]) := Lib.hid (by rw [hW, hb]; exact Box.new w3 224 [.int .u64 (t.key : Nat), .int .u64 (t.val : Nat), .int .u64 (t.left : Nat), .int .u64 (t.right : Nat), .int .u64 (t.mark : Nat), .int .u64 (t.size : Nat), .int .u64 (l : Nat)])
      have hBW3 : Hid (Below w.heap.size w W3) := Lib.hid (by rw [hW]; exact hb3H.out.alloc hz3 _)
      have hX0w := Lib.hid (show Box W3 _ _ _ by rw [hW]; exact hX0g.out.alloc _)
      have hFb3 : ¬ F b3 := fun hf => by have := hFwH.out b3 hf; omega
      rw [← hW, ← hb]
      clear hW hb hz3 hb3H
      have c0 := fun X : Kp W3 F => Kp.cell (hX0w.out.at' (i := 0) rfl) hFb0 X
      have c1 := fun X : Kp W3 F => Kp.cell (hX0w.out.at' (i := 1) rfl) hFb0 X
      have c2 := fun X : Kp W3 F => Kp.cell (hX0w.out.at' (i := 2) rfl) hFb0 X
      have c3 := fun X : Kp W3 F => Kp.cell (hX0w.out.at' (i := 3) rfl) hFb0 X
      have c4 := fun X : Kp W3 F => Kp.cell (hX0w.out.at' (i := 4) rfl) hFb0 X
      have c5 := fun X : Kp W3 F => Kp.cell (hX0w.out.at' (i := 5) rfl) hFb0 X
      have c6 := fun X : Kp W3 F => Kp.cell (hX0w.out.at' (i := 6) rfl) hFb0 X
      have d0 := fun X : Kp W3 F => Kp.cell (hX3.out.at' (i := 0) rfl) hFb3 X
      have d1 := fun X : Kp W3 F => Kp.cell (hX3.out.at' (i := 1) rfl) hFb3 X
      have d2 := fun X : Kp W3 F => Kp.cell (hX3.out.at' (i := 2) rfl) hFb3 X
      have d3 := fun X : Kp W3 F => Kp.cell (hX3.out.at' (i := 3) rfl) hFb3 X
      have d4 := fun X : Kp W3 F => Kp.cell (hX3.out.at' (i := 4) rfl) hFb3 X
      have d5 := fun X : Kp W3 F => Kp.cell (hX3.out.at' (i := 5) rfl) hFb3 X
      have d6 := fun X : Kp W3 F => Kp.cell (hX3.out.at' (i := 6) rfl) hFb3 X
      refine wp_region_row (fun w' => ∃ X : Kp W3 F, w' = X.W) [0, 1, 2, 3, 4, 5, 6, 7, 8, 9, 10, 11, 12, 13] [14, 15, 16, 17] hmo (by kernel_rfl) rfl (by kernel_rfl) (Kp.start _ _) (fun _ _ d _ _ h => by cases d <;> exact h) ?_
      refine wpReads_step _ _ rfl rfl (by rintro _ ⟨X, rfl⟩; go_simp; exact rfl) ?_
      go_simp
      refine wpReads_step _ _ rfl rfl (by rintro _ ⟨X, rfl⟩; go_simp; exact rfl) ?_
      go_simp
      refine wpReads_step _ _ rfl rfl (by rintro _ ⟨X, rfl⟩; go_simp; exact rfl) ?_
      go_simp
      refine wpReads_step _ _ rfl rfl (by rintro _ ⟨X, rfl⟩; go_simp; exact rfl) ?_
      go_simp
      refine wpReads_step _ _ rfl rfl (by rintro _ ⟨X, rfl⟩; go_simp; exact rfl) ?_
      go_simp
      refine wpReads_step _ _ rfl rfl (by rintro _ ⟨X, rfl⟩; go_simp; exact rfl) ?_
      go_simp
      refine wpReads_step _ _ rfl rfl (by rintro _ ⟨X, rfl⟩; go_simp; exact rfl) ?_
      go_simp
      refine wpReads_step _ _ rfl rfl (by rintro _ ⟨X, rfl⟩; go_simp; exact rfl) ?_
      go_simp
      refine wpReads_step _ _ rfl rfl (by rintro _ ⟨X, rfl⟩; go_simp; exact rfl) ?_
      go_simp
      refine wpReads_step _ _ rfl rfl (by rintro _ ⟨X, rfl⟩; go_simp; exact rfl) ?_
      go_simp
      refine wpReads_step _ _ rfl rfl (by rintro _ ⟨X, rfl⟩; go_simp; exact rfl) ?_
      go_simp
      refine wpReads_step _ _ rfl rfl (by rintro _ ⟨X, rfl⟩; go_simp; exact rfl) ?_
      go_simp
      refine wpReads_step _ _ rfl rfl (by rintro _ ⟨X, rfl⟩; go_simp; exact rfl) ?_
      go_simp
      refine wpReads_step _ _ rfl rfl (by rintro _ ⟨X, rfl⟩; go_simp; exact rfl) ?_
      go_simp
      refine wpReads_nil ?_
      clear c0 c1 c2 c3 c4 c5 c6 d0 d1 d2 d3 d4 d5 d6
      have hih := ih W3.drew R t.right r (by omega) hoktH.out.right hr (hHs.out.below (hBW3.out.trans ((below_drawn W3).mono hBW3.out.size)))
      rw [hdn.out] at hih
      unfold treeV at hih
      generalize avJoin m xm f R t.right r = p4 at *
      obtain ⟨R4, y4⟩ := p4
      simp only at hih hv
      have hihH := Lib.hid hih
      have hvH := Lib.hid hv
      clear hih hv
      refine wpActs_step _ rfl (fun K1 hK1 => ?_)
      go_wp2_with fail
      refine hihH.out.mono ?_
      rintro e w4 ⟨rfl, hy4, hS4, hT4⟩
      have hT4H : Hid (Turn W3 F w4 F) := Lib.hid ((Turn.below (below_drawn W3)).trans hT4)
      have hwt := with_at hS4 t hoktH.out l t.left y4 hl hoktH.out.left hy4
      unfold treeV at hwt
      have hwtH := Lib.hid hwt
      clear hS4 hT4 hihH hwt
      go_wp2
      refine hK1 _ _ ⟨⟨w4, F, hT4H.out⟩, rfl⟩ ?_
      clear hK1 K1
      refine wpActs_step _ rfl (fun K2 hK2 => ?_)
      go_wp2_with fail
      refine hwtH.out.mono ?_
      rintro e w5 ⟨rfl, hS5, hT5⟩
      have hT5H := Lib.hid (hT4H.out.trans hT5)
      have hbl := Lib.hid (avBal_at hS5 l hl)
      clear hS5 hT5 hwtH
      go_wp2
      refine hK2 _ _ ⟨⟨w5, F, hT5H.out⟩, rfl⟩ ?_
      clear hK2 K2
      refine wpActs_step _ rfl (fun K3 hK3 => ?_)
      go_wp2_with fail
      refine hbl.out.mono ?_
      rintro e w6 ⟨rfl, hlt6, hS6, hT6⟩
      have hT6H := Lib.hid (hT5H.out.trans hT6)
      have hS6H := Lib.hid hS6
      clear hS6 hT6 hbl
      go_wp2
      refine hK3 _ _ ⟨⟨w6, F, hT6H.out⟩, rfl⟩ ?_
      clear hK3 K3
      refine wpActs_step _ rfl (fun K4 hK4 => ?_)
      go_wp2
      refine hK4 _ _ ⟨⟨w6, F, hT6H.out⟩, rfl⟩ ?_
      clear hK4 K4
      refine wpActs_nil ?_
      go_wp2
      go_ret
      rw [hvH.out]
      exact ⟨rfl, hlt6, hS6H.out, (Turn.below hBW3.out).trans hT6H.out⟩
    · have d1 : decide (wrap64 (avH R r + 1) < avH R l) = false := by simp; omega
      rw [if_neg q1] at hv
      by_cases q2 : wrap64 (avH R l + 1) < avH R r
      · have d2 : decide (wrap64 (avH R l + 1) < avH R r) = true := by simp; omega
        rw [if_pos q2] at hv
        have hg3 := hGt.out _ hb2.out r hr
        obtain ⟨t, ht⟩ : ∃ t, nodeG R r = t := ⟨_, rfl⟩
        rw [ht] at hg3 hv
        have hokt := hokG.out r
        rw [ht] at hokt
        have hoktH := Lib.hid hokt
        have hg3H := Lib.hid hg3
        clear hg3 hokt ht
        go_wp2_with fail
        refine hg3H.out.mono ?_
        rintro e w3 ⟨rfl, hb3⟩
        have hb3H := Lib.hid (hb2.out.trans (hb3.mono hb2.out.size))
        have hz3 := hb3H.out.size
        have hX0g := Lib.hid (hX0'.out.below hb3)
        clear hb3 hg3H
        go_wp2_with fail
        obtain ⟨W3, hW⟩ : ∃ W, W = w3.alloc (Obj.cells #[.int .u64 (t.key : Nat), .int .u64 (t.val : Nat), .int .u64 (t.left : Nat), .int .u64 (t.right : Nat), .int .u64 (t.mark : Nat), .int .u64 (t.size : Nat), .int .u64 (r : Nat)] 224) := ⟨_, rfl⟩
        obtain ⟨b3, hb⟩ : ∃ b, b = w3.heap.size := ⟨_, rfl⟩
        have hX3 : Hid (Box W3 b3 224 [.int .u64 (t.key : Nat), .int .u64 (t.val : Nat), .int .u64 (t.left : Nat), .int .u64 (t.right : Nat), .int .u64 (t.mark : Nat), .int .u64 (t.size : Nat), .int .u64 (r : Nat)]) := Lib.hid (by rw [hW, hb]; exact Box.new w3 224 [.int .u64 (t.key : Nat), .int .u64 (t.val : Nat), .int .u64 (t.left : Nat), .int .u64 (t.right : Nat), .int .u64 (t.mark : Nat), .int .u64 (t.size : Nat), .int .u64 (r : Nat)])
        have hBW3 : Hid (Below w.heap.size w W3) := Lib.hid (by rw [hW]; exact hb3H.out.alloc hz3 _)
        have hX0w := Lib.hid (show Box W3 _ _ _ by rw [hW]; exact hX0g.out.alloc _)
        have hFb3 : ¬ F b3 := fun hf => by have := hFwH.out b3 hf; omega
        rw [← hW, ← hb]
        clear hW hb hz3 hb3H
        have c0 := fun X : Kp W3 F => Kp.cell (hX0w.out.at' (i := 0) rfl) hFb0 X
        have c1 := fun X : Kp W3 F => Kp.cell (hX0w.out.at' (i := 1) rfl) hFb0 X
        have c2 := fun X : Kp W3 F => Kp.cell (hX0w.out.at' (i := 2) rfl) hFb0 X
        have c3 := fun X : Kp W3 F => Kp.cell (hX0w.out.at' (i := 3) rfl) hFb0 X
        have c4 := fun X : Kp W3 F => Kp.cell (hX0w.out.at' (i := 4) rfl) hFb0 X
        have c5 := fun X : Kp W3 F => Kp.cell (hX0w.out.at' (i := 5) rfl) hFb0 X
        have c6 := fun X : Kp W3 F => Kp.cell (hX0w.out.at' (i := 6) rfl) hFb0 X
        have d0 := fun X : Kp W3 F => Kp.cell (hX3.out.at' (i := 0) rfl) hFb3 X
        have d1 := fun X : Kp W3 F => Kp.cell (hX3.out.at' (i := 1) rfl) hFb3 X
        have d2 := fun X : Kp W3 F => Kp.cell (hX3.out.at' (i := 2) rfl) hFb3 X
        have d3 := fun X : Kp W3 F => Kp.cell (hX3.out.at' (i := 3) rfl) hFb3 X
        have d4 := fun X : Kp W3 F => Kp.cell (hX3.out.at' (i := 4) rfl) hFb3 X
        have d5 := fun X : Kp W3 F => Kp.cell (hX3.out.at' (i := 5) rfl) hFb3 X
        have d6 := fun X : Kp W3 F => Kp.cell (hX3.out.at' (i := 6) rfl) hFb3 X
        refine wp_region_row (fun w' => ∃ X : Kp W3 F, w' = X.W) [0, 1, 2, 3, 4, 5, 6, 7, 8, 9, 10, 12, 13, 14] [11, 15, 16, 17] hmo (by kernel_rfl) rfl (by kernel_rfl) (Kp.start _ _) (fun _ _ d _ _ h => by cases d <;> exact h) ?_
        refine wpReads_step _ _ rfl rfl (by rintro _ ⟨X, rfl⟩; go_simp; exact rfl) ?_
        go_simp
        refine wpReads_step _ _ rfl rfl (by rintro _ ⟨X, rfl⟩; go_simp; exact rfl) ?_
        go_simp
        refine wpReads_step _ _ rfl rfl (by rintro _ ⟨X, rfl⟩; go_simp; exact rfl) ?_
        go_simp
        refine wpReads_step _ _ rfl rfl (by rintro _ ⟨X, rfl⟩; go_simp; exact rfl) ?_
        go_simp
        refine wpReads_step _ _ rfl rfl (by rintro _ ⟨X, rfl⟩; go_simp; exact rfl) ?_
        go_simp
        refine wpReads_step _ _ rfl rfl (by rintro _ ⟨X, rfl⟩; go_simp; exact rfl) ?_
        go_simp
        refine wpReads_step _ _ rfl rfl (by rintro _ ⟨X, rfl⟩; go_simp; exact rfl) ?_
        go_simp
        refine wpReads_step _ _ rfl rfl (by rintro _ ⟨X, rfl⟩; go_simp; exact rfl) ?_
        go_simp
        refine wpReads_step _ _ rfl rfl (by rintro _ ⟨X, rfl⟩; go_simp; exact rfl) ?_
        go_simp
        refine wpReads_step _ _ rfl rfl (by rintro _ ⟨X, rfl⟩; go_simp; exact rfl) ?_
        go_simp
        refine wpReads_step _ _ rfl rfl (by rintro _ ⟨X, rfl⟩; go_simp; exact rfl) ?_
        go_simp
        refine wpReads_step _ _ rfl rfl (by rintro _ ⟨X, rfl⟩; go_simp; exact rfl) ?_
        go_simp
        refine wpReads_step _ _ rfl rfl (by rintro _ ⟨X, rfl⟩; go_simp; exact rfl) ?_
        go_simp
        refine wpReads_step _ _ rfl rfl (by rintro _ ⟨X, rfl⟩; go_simp; exact rfl) ?_
        go_simp
        refine wpReads_nil ?_
        clear c0 c1 c2 c3 c4 c5 c6 d0 d1 d2 d3 d4 d5 d6
        have hih := ih W3.drew R l t.left (by omega) hl hoktH.out.left (hHs.out.below (hBW3.out.trans ((below_drawn W3).mono hBW3.out.size)))
        rw [hdn.out] at hih
        unfold treeV at hih
        generalize avJoin m xm f R l t.left = p4 at *
        obtain ⟨R4, y4⟩ := p4
        simp only at hih hv
        have hihH := Lib.hid hih
        have hvH := Lib.hid hv
        clear hih hv
        refine wpActs_step _ rfl (fun K1 hK1 => ?_)
        go_wp2_with fail
        refine hihH.out.mono ?_
        rintro e w4 ⟨rfl, hy4, hS4, hT4⟩
        have hT4H : Hid (Turn W3 F w4 F) := Lib.hid ((Turn.below (below_drawn W3)).trans hT4)
        have hwt := with_at hS4 t hoktH.out r y4 t.right hr hy4 hoktH.out.right
        unfold treeV at hwt
        have hwtH := Lib.hid hwt
        clear hS4 hT4 hihH hwt
        go_wp2
        refine hK1 _ _ ⟨⟨w4, F, hT4H.out⟩, rfl⟩ ?_
        clear hK1 K1
        refine wpActs_step _ rfl (fun K2 hK2 => ?_)
        go_wp2_with fail
        refine hwtH.out.mono ?_
        rintro e w5 ⟨rfl, hS5, hT5⟩
        have hT5H := Lib.hid (hT4H.out.trans hT5)
        have hbl := Lib.hid (avBal_at hS5 r hr)
        clear hS5 hT5 hwtH
        go_wp2
        refine hK2 _ _ ⟨⟨w5, F, hT5H.out⟩, rfl⟩ ?_
        clear hK2 K2
        refine wpActs_step _ rfl (fun K3 hK3 => ?_)
        go_wp2_with fail
        refine hbl.out.mono ?_
        rintro e w6 ⟨rfl, hlt6, hS6, hT6⟩
        have hT6H := Lib.hid (hT5H.out.trans hT6)
        have hS6H := Lib.hid hS6
        clear hS6 hT6 hbl
        go_wp2
        refine hK3 _ _ ⟨⟨w6, F, hT6H.out⟩, rfl⟩ ?_
        clear hK3 K3
        refine wpActs_step _ rfl (fun K4 hK4 => ?_)
        go_wp2
        refine hK4 _ _ ⟨⟨w6, F, hT6H.out⟩, rfl⟩ ?_
        clear hK4 K4
        refine wpActs_nil ?_
        go_wp2
        go_ret
        rw [hvH.out]
        exact ⟨rfl, hlt6, hS6H.out, (Turn.below hBW3.out).trans hT6H.out⟩
      · have d2 : decide (wrap64 (avH R l + 1) < avH R r) = false := by simp; omega
        rw [if_neg q2] at hv
        have hwt := with_at (hHs.out.below hb2.out) m hokm xm l r hxm hl hr
        unfold treeV at hwt
        have hwtH := Lib.hid hwt
        clear hwt
        have c0 := hX0'.out.at' (i := 0) rfl
        have c1 := hX0'.out.at' (i := 1) rfl
        have c2 := hX0'.out.at' (i := 2) rfl
        have c3 := hX0'.out.at' (i := 3) rfl
        have c4 := hX0'.out.at' (i := 4) rfl
        have c5 := hX0'.out.at' (i := 5) rfl
        have c6 := hX0'.out.at' (i := 6) rfl
        have hvH := Lib.hid hv
        clear hv
        go_wp2_with fail
        refine hwtH.out.mono ?_
        rintro e w4 ⟨rfl, hS4, hT4⟩
        have hS4H := Lib.hid hS4
        have hT4H := Lib.hid ((Turn.below (F := F) hb2.out).trans hT4)
        clear hS4 hT4 hwtH c0 c1 c2 c3 c4 c5 c6
        go_wp2
        go_ret
        rw [hvH.out]
        exact ⟨rfl, hxm, hS4H.out, hT4H.out⟩
end
end Go.Proofs.YtjpmlneihbckpaaGreatDoor
/- The walks of package avl: is, Join. -/
set_option linter.unusedVariables false
set_option linter.unusedSimpArgs false
namespace Go.Proofs.YtjpmlneihbckpaaGreatDoor
open Go.RowKit Go.Shelf
set_option maxRecDepth 100000 in
theorem avIs_at {w : World} {s N : Nat} {R : Nat → Option (List Nat)} {n : Nat} (h : Rd N w s R n) (x : Nat) (hx : x < 18446744073709551616) : Calls Tryz.prog 147 #[.pointer (some ⟨s, 0, none⟩), .int .u64 (x : Nat)] w fun e w' => e = .returned (.bool (isR R x)) ∧ Below w.heap.size w w' := by
  obtain ⟨nd, hnd⟩ : ∃ nd, nodeG R x = nd := ⟨_, rfl⟩
  obtain ⟨z, hz⟩ : ∃ z, nodeE R x = z := ⟨_, rfl⟩
  have hG := Lib.hid (nget_lit h x hx nd hnd z hz)
  have hv : isR R x = (x == 0 || z == 0) := by unfold isR; rw [hz]
  by_cases h0 : x = 0
  · have d : ((x : Int) == 0) = true := by simp; omega
    have hv2 : Hid (isR R x = true) := Lib.hid (by rw [hv, h0]; rfl)
    clear h hnd hz hv h0
    go_enter Tryz.func147, Tryz.ntmps147
    go_wp2_with fail
    refine hG.out.mono ?_
    rintro e w1 ⟨rfl, hb⟩
    have hbH := Lib.hid hb
    have hz1 := hb.size
    clear hb
    go_wp2
    go_ret
    exact ⟨by rw [hv2.out]; rfl, hbH.out.alloc hz1 _⟩
  · have d : ((x : Int) == 0) = false := by simp; omega
    have hv2 : Hid (isR R x = (z == 0)) := Lib.hid (by rw [hv]; simp [h0])
    have hzz : z = 0 ∨ z ≠ 0 := by omega
    rcases hzz with hz0 | hz0
    · have d2 : ((z : Int) == 0) = true := by simp; omega
      have hv3 : Hid (isR R x = true) := Lib.hid (by rw [hv2.out, hz0]; rfl)
      clear h hnd hz hv h0 hz0
      go_enter Tryz.func147, Tryz.ntmps147
      go_wp2_with fail
      refine hG.out.mono ?_
      rintro e w1 ⟨rfl, hb⟩
      have hbH := Lib.hid hb
      have hz1 := hb.size
      clear hb
      go_wp2
      go_ret
      exact ⟨by rw [hv3.out]; rfl, hbH.out.alloc hz1 _⟩
    · have d2 : ((z : Int) == 0) = false := by simp; omega
      have hv3 : Hid (isR R x = false) := Lib.hid (by rw [hv2.out]; simpa using hz0)
      clear h hnd hz hv h0 hz0
      go_enter Tryz.func147, Tryz.ntmps147
      go_wp2_with fail
      refine hG.out.mono ?_
      rintro e w1 ⟨rfl, hb⟩
      have hbH := Lib.hid hb
      have hz1 := hb.size
      clear hb
      go_wp2
      go_ret
      exact ⟨by rw [hv3.out]; rfl, hbH.out.alloc hz1 _⟩
section
variable {w w' : World} {s : Nat} {F : Nat → Prop} {R : Nat → Option (List Nat)} {H : List Nat} {P q most last G : Nat}
set_option maxHeartbeats 4000000 in
set_option maxRecDepth 100000 in
theorem avTop_at (h : StoreIs w s F R H P q most last G) (l m r : Nat) (hl : l < 18446744073709551616) (hm : m < 18446744073709551616) (hr : r < 18446744073709551616) :
    Calls Tryz.prog 124 #[.pointer (some ⟨s, 0, none⟩), .int .u64 (l : Nat), .int .u64 (m : Nat), .int .u64 (r : Nat)] w fun e w' => e = .returned (.tuple #[.int .u64 ((avTop R l m r).2.1 : Nat), .int .i64 ((avTop R l m r).2.2 : Nat)]) ∧ StoreIs w' s F (avTop R l m r).1 H P q most last G ∧ Turn w F w' F := by
  obtain ⟨n, hrd, _⟩ := h.rd
  have hLen := rlen_at hrd 0 (by omega)
  have hI := Lib.hid (fun W (hb : Below w.heap.size w W) y (hy : y < 18446744073709551616) => avIs_at (hrd.below hb) y hy)
  have hGt := Lib.hid (fun W (hb : Below w.heap.size w W) => by have := avGet_at (hrd.below hb) m hm; unfold treeV at this; exact this)
  have hokm := Lib.hid (hrd.nodeG m)
  have hHs := Lib.hid h
  obtain ⟨lv, hlv, hle⟩ : ∃ (a b : Nat), lenR R 0 = .tuple #[.int .i64 (a : Nat), .int .i64 (b : Nat)] ∧ b ≠ 1 := by
    unfold lenR
    cases R 0 with
    | none => exact ⟨0, 7, rfl, by decide⟩
    | some ws => exact ⟨ws.length, 0, rfl, by decide⟩
  rw [hle.1] at hLen
  have hl1 := hle.2
  have dl : ((hlv : Int) == 1) = false := by simp; omega
  have hLenH := Lib.hid hLen
  clear h hrd hLen hle
  have fin : ∀ (hc : ¬ (m ≠ 0 ∧ isR R l = true ∧ isR R m = true ∧ isR R r = true)), Hid (avTop R l m r = (R, 0, 8)) := fun hc => Lib.hid (avTop_no hc)
  by_cases hm0 : m = 0
  · have d0 : ((m : Int) == 0) = true := by simp; omega
    have hv := fin (fun hc => hc.1 hm0)
    clear fin hm0
    go_enter Tryz.func124, Tryz.ntmps124
    go_wp2_with fail
    refine hLenH.out.mono ?_
    rintro e w1 ⟨rfl, rfl⟩
    go_wp2
    go_ret2
    rw [hv.out]
    exact ⟨rfl, hHs.out, Turn.refl _ _⟩
  · have d0 : ((m : Int) == 0) = false := by simp; omega
    cases h1 : isR R l with
    | false =>
      have hv := fin (fun hc => by rw [h1] at hc; cases hc.2.1)
      have hi1 := Lib.hid (hI.out w (Below.refl _ _) l hl)
      rw [h1] at hi1
      clear fin h1 hm0 hI
      go_enter Tryz.func124, Tryz.ntmps124
      go_wp2_with fail
      refine hLenH.out.mono ?_
      rintro e w1 ⟨rfl, rfl⟩
      go_wp2_with fail
      refine hi1.out.mono ?_
      rintro e w1 ⟨rfl, hb1⟩
      have hb1H := Lib.hid hb1
      clear hb1
      go_wp2
      go_ret2
      rw [hv.out]
      exact ⟨rfl, hHs.out.below hb1H.out, Turn.below hb1H.out⟩
    | true =>
      have hi1 := Lib.hid (hI.out w (Below.refl _ _) l hl)
      have hi2 := Lib.hid (fun W (hb : Below w.heap.size w W) => hI.out W hb m hm)
      rw [h1] at hi1
      cases h2 : isR R m with
      | false =>
        have hv := fin (fun hc => by rw [h2] at hc; cases hc.2.2.1)
        rw [h2] at hi2
        clear fin h1 h2 hm0 hI
        go_enter Tryz.func124, Tryz.ntmps124
        go_wp2_with fail
        refine hLenH.out.mono ?_
        rintro e w1 ⟨rfl, rfl⟩
        go_wp2_with fail
        refine hi1.out.mono ?_
        rintro e w1 ⟨rfl, hb1⟩
        have hb1H := Lib.hid hb1
        clear hb1
        go_wp2_with fail
        refine (hi2.out _ hb1H.out).mono ?_
        rintro e w2 ⟨rfl, hb2⟩
        have hb2H := Lib.hid (hb1H.out.trans (hb2.mono hb1H.out.size))
        clear hb2
        go_wp2
        go_ret2
        rw [hv.out]
        exact ⟨rfl, hHs.out.below hb2H.out, Turn.below hb2H.out⟩
      | true =>
        have hi3 := Lib.hid (fun W (hb : Below w.heap.size w W) => hI.out W hb r hr)
        rw [h2] at hi2
        cases h3 : isR R r with
        | false =>
          have hv := fin (fun hc => by rw [h3] at hc; cases hc.2.2.2)
          rw [h3] at hi3
          clear fin h1 h2 h3 hm0 hI
          go_enter Tryz.func124, Tryz.ntmps124
          go_wp2_with fail
          refine hLenH.out.mono ?_
          rintro e w1 ⟨rfl, rfl⟩
          go_wp2_with fail
          refine hi1.out.mono ?_
          rintro e w1 ⟨rfl, hb1⟩
          have hb1H := Lib.hid hb1
          clear hb1
          go_wp2_with fail
          refine (hi2.out _ hb1H.out).mono ?_
          rintro e w2 ⟨rfl, hb2⟩
          have hb2H := Lib.hid (hb1H.out.trans (hb2.mono hb1H.out.size))
          clear hb2
          go_wp2_with fail
          refine (hi3.out _ hb2H.out).mono ?_
          rintro e w3 ⟨rfl, hb3⟩
          have hb3H := Lib.hid (hb2H.out.trans (hb3.mono hb2H.out.size))
          clear hb3
          go_wp2
          go_ret2
          rw [hv.out]
          exact ⟨rfl, hHs.out.below hb3H.out, Turn.below hb3H.out⟩
        | true =>
          have hv := Lib.hid (avTop_yes (R := R) (l := l) (m := m) (r := r) ⟨hm0, h1, h2, h3⟩)
          have hj := Lib.hid (fun W (hb : Below w.heap.size w W) => avJoin_at (nodeG R m) hokm.out m hm 100 W R l r (Nat.le_refl _) hl hr (hHs.out.below hb))
          unfold treeV at hj
          rw [h3] at hi3
          generalize avJoin (nodeG R m) m 100 R l r = p at *
          have hj2 : Hid (∀ W, Below w.heap.size w W → Calls Tryz.prog 148 #[.pointer (some ⟨s, 0, none⟩), .int .u64 (l : Nat), .int .u64 (r : Nat), .agg #[.int .u64 ((nodeG R m).key : Nat), .int .u64 ((nodeG R m).val : Nat), .int .u64 ((nodeG R m).left : Nat), .int .u64 ((nodeG R m).right : Nat), .int .u64 ((nodeG R m).mark : Nat), .int .u64 ((nodeG R m).size : Nat), .int .u64 (m : Nat)], .int .i64 0] W fun e w' => e = .returned (.int .u64 (p.2 : Nat)) ∧ p.2 < 18446744073709551616 ∧ StoreIs w' s F p.1 H P q most last G ∧ Turn W F w' F) := hj
          clear fin h1 h2 h3 hm0 hI hj
          go_enter Tryz.func124, Tryz.ntmps124
          go_wp2_with fail
          refine hLenH.out.mono ?_
          rintro e w1 ⟨rfl, rfl⟩
          go_wp2_with fail
          refine hi1.out.mono ?_
          rintro e w1 ⟨rfl, hb1⟩
          have hb1H := Lib.hid hb1
          clear hb1
          go_wp2_with fail
          refine (hi2.out _ hb1H.out).mono ?_
          rintro e w2 ⟨rfl, hb2⟩
          have hb2H := Lib.hid (hb1H.out.trans (hb2.mono hb1H.out.size))
          clear hb2
          go_wp2_with fail
          refine (hi3.out _ hb2H.out).mono ?_
          rintro e w3 ⟨rfl, hb3⟩
          have hb3H := Lib.hid (hb2H.out.trans (hb3.mono hb2H.out.size))
          clear hb3
          go_wp2_with fail
          refine (hGt.out _ hb3H.out).mono ?_
          rintro e w4 ⟨rfl, hb4⟩
          have hb4H := Lib.hid (hb3H.out.trans (hb4.mono hb3H.out.size))
          clear hb4
          go_wp2_with fail
          refine (hj2.out _ hb4H.out).mono ?_
          rintro e w5 ⟨rfl, hlt, hS5, hT5⟩
          have hS5H := Lib.hid hS5
          have hT5H := Lib.hid ((Turn.below (F := F) hb4H.out).trans hT5)
          clear hS5 hT5
          go_wp2
          go_ret2
          rw [hv.out, okW_1, okW_2, okW_3]
          exact ⟨rfl, hS5H.out, hT5H.out⟩
end
end Go.Proofs.YtjpmlneihbckpaaGreatDoor
/- Handles that are told: append of one; what Check's OK shows of heights. -/
set_option linter.unusedVariables false
set_option linter.unusedSimpArgs false
namespace Go.Proofs.YtjpmlneihbckpaaGreatDoor
open Go.RowKit Go.Shelf
/-- 'append(out, x)', out the call's own -/
theorem app_h {ops : Array Oper} {rest : List Oper} {o : Oper} {a : Act} {Q : Exit → Act → World → Prop} (hgd : o.guard = none) (s x : Operand)
    (ho : o.op = .call { callee := .builtin .append, args := #[s, x], argTypes := #[49, 49] }) (w : World) (base : Nat) (v : Value) (xs : List Nat) (hs : a.eval s = v)
    (hown : w.ownsRow base 32 1 v xs.length (hsV xs)) (b : Nat) (y : Nat) (hx : a.eval x = .slice (some ⟨b, 0, none⟩) 1 1) (hr : w.cell? ⟨b, 0, none⟩ = some (.int .u64 (y : Nat))) (hlen : xs.length ≤ 1000000) (hbase : base ≤ w.heap.size)
    (h : ∀ v' w', w'.ownsRow base 32 1 v' (xs ++ [y]).length (hsV (xs ++ [y])) → w.grownBy w' v.ownBlock → (v'.ownBlock = v.ownBlock ∨ v'.ownBlock = some w.heap.size) → wpList Tryz.prog ops Q rest (a.put o.dst v') w') :
    wpList Tryz.prog ops Q (o :: rest) a w := by
  obtain ⟨i0, hi, hz0, hz1, hz2⟩ := info_parts Tryz.info_h
  have hcells : ∀ j u, ([.int .u64 (y : Nat)] : List Value)[j]? = some u → w.cell? ((⟨b, 0, none⟩ : Addr).add j) = some u := by
    intro j u hu
    cases j with
    | zero =>
      rw [show (⟨b, 0, none⟩ : Addr).add 0 = ⟨b, 0, none⟩ by unfold Addr.add; split <;> simp_all]
      rw [hr]
      exact hu
    | succ j => cases hu
  refine wpList_append_own_at w hgd s x 49 ho base 32 i0 _ 1 8 Tryz.under_hs hi hz0 hz1 hz2 rfl (by decide) v xs.length (hsV xs) hs hown ⟨b, 0, none⟩ 1 1 [.int .u64 (y : Nat)] hx rfl hcells (by simp [Value.oneCell']) (by unfold maxLen; omega) (by omega) hbase ?_
  intro v' w' h1 h2 _ h4
  exact h v' w' (by rw [List.length_append]; unfold hsV at h1 ⊢; rw [List.map_append]; exact h1) h2 h4
theorem w64_range (z : Int) : -9223372036854775808 ≤ wrap64 z ∧ wrap64 z ≤ 9223372036854775807 := by unfold wrap64; omega
theorem w64_toU (z : Int) (h : -9223372036854775808 ≤ z ∧ z ≤ 9223372036854775807) : wrap64 ((toU z : Nat) : Int) = z := by
  rw [← wrapU]
  show wrap64 (z % 18446744073709551616) = z
  unfold wrap64
  omega
theorem near_of {a b : Int} (ha : -9223372036854775808 ≤ a ∧ a ≤ 9223372036854775807) (hb : -9223372036854775808 ≤ b ∧ b ≤ 9223372036854775807) (h2 : ¬ wrap64 (b + 1) < a) (h3 : ¬ wrap64 (a + 1) < b) : a - b ≤ 1 ∧ b - a ≤ 1 := by
  unfold wrap64 at h2 h3
  omega
theorem avBad_none {R : Nat → Option (List Nat)} {y : Nat} (h : avBad R y = false) :
    wrap64 ((nodeG R y).mark : Nat) = wrap64 (max (avH R (nodeG R y).left) (avH R (nodeG R y).right) + 1) ∧ avH R (nodeG R y).left - avH R (nodeG R y).right ≤ 1 ∧ avH R (nodeG R y).right - avH R (nodeG R y).left ≤ 1 := by
  unfold avBad at h
  simp only [Bool.or_eq_false_iff] at h
  obtain ⟨⟨h1, h2⟩, h3⟩ := h
  unfold avBad1 at h1
  unfold avBad2 at h2
  unfold avBad3 at h3
  have e1 : (((nodeG R y).mark : Nat) : Int) = ((toU (wrap64 (max (avH R (nodeG R y).left) (avH R (nodeG R y).right) + 1)) : Nat) : Int) := by simpa using h1
  have e2 := of_decide_eq_false h2
  have e3 := of_decide_eq_false h3
  refine ⟨?_, near_of (w64_range _) (w64_range _) e2 e3⟩
  rw [e1]
  exact w64_toU _ (w64_range _)
theorem nodeE_of_pairE {R : Nat → Option (List Nat)} {y : Nat} (h : pairE R y = 0) : nodeE R y = 0 := by
  unfold pairE at h
  by_cases h0 : nodeE R y = 0
  · exact h0
  · rw [if_pos h0] at h; exact h
theorem inR_zero (R : Nat → Option (List Nat)) (n : Nat) : inR R n 0 = [] := by
  unfold inR goO
  rw [if_neg (by omega)]
  unfold dive
  simp
theorem check_nodes {R : Nat → Option (List Nat)} {n root : Nat} (h : checkR R n root = 0) (hs : (nodeG R root).size < 18446744073709551616) (hn : n ≤ 262144) : ∀ y ∈ inR R n root, nodeE R y = 0 := by
  intro y hy
  by_cases h0 : root = 0
  · rw [h0, inR_zero] at hy; cases hy
  · obtain ⟨⟨c, hc⟩, _⟩ := check_ok h0 h hs hn
    obtain ⟨i, hi, rfl⟩ := List.getElem_of_mem hy
    exact nodeE_of_pairE (chk_told hc hi).1
theorem acheck_ok {R : Nat → Option (List Nat)} {n root : Nat} (h : acheckR R n root = 0) (hs : (nodeG R root).size < 18446744073709551616) (hn : n ≤ 262144) : ∀ y ∈ inR R n root, nodeE R y = 0 ∧ avBad R y = false := by
  unfold acheckR at h
  split at h
  · omega
  · rename_i h1
    split at h
    · cases h
    · rename_i h2
      exact fun y hy => ⟨check_nodes (by omega) hs hn y hy, by
        cases hb : avBad R y with
        | false => rfl
        | true => exact absurd (List.any_eq_true.2 ⟨y, hy, hb⟩) h2⟩
theorem acheck_val (R : Nat → Option (List Nat)) (n root : Nat) : acheckR R n root = 0 ∨ acheckR R n root = 8 := by
  unfold acheckR
  have := checkR_val R n root
  split
  · exact this
  · split
    · exact .inr rfl
    · exact .inl rfl
end Go.Proofs.YtjpmlneihbckpaaGreatDoor
/- loftlaw13.RedWrong: the walk. -/
set_option linter.unusedVariables false
set_option linter.unusedSimpArgs false
namespace Go.Proofs.YtjpmlneihbckpaaGreatDoor
open Go.RowKit Go.Shelf
def prZ3 : Pr := (⟨#[122, 122]⟩, ⟨#[]⟩)
theorem rbBad_none {R : Nat → Option (List Nat)} {y : Nat} (h : rbBad R y = false) :
    rbB R (nodeG R y).right = rbB R (nodeG R y).left ∧ (rbRed R y = true → rbRed R (nodeG R y).left = false ∧ rbRed R (nodeG R y).right = false) := by
  unfold rbBad at h
  simp only [Bool.or_eq_false_iff] at h
  obtain ⟨⟨h1, h2⟩, h3⟩ := h
  unfold rbBad1 at h1
  unfold rbBad3 at h3
  refine ⟨by simpa using h1, fun e => ?_⟩
  rw [e, Bool.true_and, Bool.or_eq_false_iff] at h3
  exact h3
theorem rcheck_ok {R : Nat → Option (List Nat)} {n root : Nat} (h : rcheckR R n root = 0) (hs : (nodeG R root).size < 18446744073709551616) (hn : n ≤ 262144) : ∀ y ∈ inR R n root, nodeE R y = 0 ∧ rbBad R y = false := by
  unfold rcheckR at h
  split at h
  · omega
  · rename_i h1
    split at h
    · cases h
    · rename_i h2
      exact fun y hy => ⟨check_nodes (by omega) hs hn y hy, by
        cases hb : rbBad R y with
        | false => rfl
        | true => exact absurd (List.any_eq_true.2 ⟨y, hy, hb⟩) h2⟩
theorem rcheck_val (R : Nat → Option (List Nat)) (n root : Nat) : rcheckR R n root = 0 ∨ rcheckR R n root = 8 := by
  unfold rcheckR
  have := checkR_val R n root
  split
  · exact this
  · split
    · exact .inr rfl
    · exact .inl rfl
set_option maxHeartbeats 1000000 in
set_option maxRecDepth 100000 in
theorem wr13_0 {w : World} (hT : Tab w) (l : List Pr) (A : Option Addr) (c : Nat) (a a2 : Int) (x : Nd) (sd : Bool) (h : ILaw w A l) (hg : 30 < l.length ∨ (l.length ≤ 30 ∧ longL l = true)) :
    Calls Tryz.prog 7 #[.slice A l.length c, .int .i64 a, .int .i64 a2, x.v, .bool sd] w (TrueB w) := by
  obtain ⟨W0, hW0⟩ : ∃ W, W = w.alloc (Obj.cells #[Value.int IntKind.u64 (x.key : Nat), Value.int IntKind.u64 (x.val : Nat), Value.int IntKind.u64 (x.left : Nat), Value.int IntKind.u64 (x.right : Nat), Value.int IntKind.u64 (x.mark : Nat), Value.int IntKind.u64 (x.size : Nat)] 53) := ⟨_, rfl⟩
  have hb0 : Below w.heap.size w W0 := by rw [hW0]; exact (Below.refl _ w).alloc (Nat.le_refl _) _
  have hA := Lib.hid (awake13_at (hT.below hb0 (tab_lt hT)))
  have hL := Lib.hid (refLong_at (c := c) (h.1.prs.below hb0) h.2.2 h.2.1)
  have z1 := h.2.2
  have hb0H := Lib.hid hb0
  have hW0H := Lib.hid hW0
  clear hT h hb0 hW0
  unfold TrueB Nd.v
  rcases hg with hg | ⟨g1, g3⟩
  · have d1 : decide ((30 : Int) < (l.length : Int)) = true := by simp; omega
    go_enter Tryz.func7, Tryz.ntmps7
    go_wp2_with fail
    rw [← hW0H.out]
    refine hA.out.mono ?_
    rintro e w1 ⟨rfl, hb1⟩
    have hbH := Lib.hid (hb0H.out.trans (hb1.mono hb0H.out.size))
    clear hb1
    go_wp2
    go_ret
    exact ⟨rfl, hbH.out⟩
  · have d1 : decide ((30 : Int) < (l.length : Int)) = false := by simp; omega
    have hLa := Lib.hid (by have := hL.out; rw [g3] at this; exact this)
    clear hL g3
    go_enter Tryz.func7, Tryz.ntmps7
    go_wp2_with fail
    rw [← hW0H.out]
    refine hLa.out.mono ?_
    rintro e w0 ⟨rfl, rfl⟩
    go_wp2_with fail
    refine hA.out.mono ?_
    rintro e w1 ⟨rfl, hb1⟩
    have hbH := Lib.hid (hb0H.out.trans (hb1.mono hb0H.out.size))
    clear hb1
    go_wp2
    go_ret
    exact ⟨rfl, hbH.out⟩
set_option maxHeartbeats 8000000 in
set_option maxRecDepth 100000 in
theorem wr13_main {w : World} (hT : Tab w) (l : List Pr) (A : Option Addr) (c : Nat) (a a2 : Int) (x : Nd) (sd : Bool) (h : ILaw w A l) (hab : -9223372036854775808 ≤ a ∧ a ≤ 9223372036854775807) (hab2 : -9223372036854775808 ≤ a2 ∧ a2 ≤ 9223372036854775807) (hx : x.Ok) (g1 : l.length ≤ 30) (g3 : longL l = false) :
    Calls Tryz.prog 7 #[.slice A l.length c, .int .i64 a, .int .i64 a2, x.v, .bool sd] w (TrueB w) := by
  have hmo : Tryz.prog.follows .mixedOrders = true := by kernel_rfl
  obtain ⟨W0, hW0⟩ : ∃ W, W = w.alloc (Obj.cells #[Value.int IntKind.u64 (x.key : Nat), Value.int IntKind.u64 (x.val : Nat), Value.int IntKind.u64 (x.left : Nat), Value.int IntKind.u64 (x.right : Nat), Value.int IntKind.u64 (x.mark : Nat), Value.int IntKind.u64 (x.size : Nat)] 53) := ⟨_, rfl⟩
  have hb0 : Below w.heap.size w W0 := by rw [hW0]; exact (Below.refl _ w).alloc (Nat.le_refl _) _
  have hbx : Box W0 w.heap.size 53 [Value.int IntKind.u64 (x.key : Nat), Value.int IntKind.u64 (x.val : Nat), Value.int IntKind.u64 (x.left : Nat), Value.int IntKind.u64 (x.right : Nat), Value.int IntKind.u64 (x.mark : Nat), Value.int IntKind.u64 (x.size : Nat)] := by rw [hW0]; exact Box.new w 53 [Value.int IntKind.u64 (x.key : Nat), Value.int IntKind.u64 (x.val : Nat), Value.int IntKind.u64 (x.left : Nat), Value.int IntKind.u64 (x.right : Nat), Value.int IntKind.u64 (x.mark : Nat), Value.int IntKind.u64 (x.size : Nat)]
  have hT0 := hT.below hb0 (tab_lt hT)
  have hTw := Lib.hid hT
  have hTH := Lib.hid hT0
  have hL := refLong_at (c := c) (h.1.prs.below hb0) h.2.2 h.2.1
  rw [g3] at hL
  have hLH := Lib.hid hL
  have d1 : decide ((30 : Int) < (l.length : Int)) = false := by simp; omega
  have hso := Lib.hid (refSorted_at (c := c) (h.1.prs.below hb0) hb0.size (by omega) h.2.1)
  have hsl := sortedL_len l
  have hrs := Lib.hid (sortedL_rising l)
  have hszl := sized_of g3
  have hszm : Hid (∀ p ∈ sortedL l, p.1.size ≤ 1000 ∧ p.2.size ≤ 1000) := Lib.hid (fun p hp => hszl p (sortedL_mem hp))
  have hb0H := Lib.hid hb0
  have hW0H := Lib.hid hW0
  have hbxH := Lib.hid hbx
  have hxok := Lib.hid hx
  clear hT h hb0 hW0 hT0 hL g3 hbx hx hszl
  unfold TrueB Nd.v
  go_enter Tryz.func7, Tryz.ntmps7
  go_wp2_with fail
  rw [← hW0H.out]
  refine hLH.out.mono ?_
  rintro e w0 ⟨rfl, rfl⟩
  go_wp2_with fail
  refine hso.out.mono ?_
  rintro e w2 ⟨v, rfl, hrow, hb2⟩
  obtain ⟨A2, c2, rfl, hA2, hc2, hP2⟩ := own_pairs hrow rfl
  have hbw2 := Lib.hid hb2
  have hP2H := Lib.hid hP2
  have hN := Lib.hid (snew_at (hTH.out.below hb2 (tab_lt hTH.out)) 262144 1000 4294967295 (by omega) (by omega) (by omega) (by omega) (by omega))
  clear hrow hb2 hP2 hso hLH hA2
  generalize sortedL l = m at *
  go_wp2_with fail
  refine hN.out.mono ?_
  rintro e w3 ⟨s, F, rfl, hS, hs3, hF3, hb3⟩
  have hb3H := Lib.hid (hbw2.out.trans (hb3.mono hbw2.out.size))
  have hcf3 : CellsF w3 F A2 (prsV m) := CellsF.of_prs (hP2H.out.below hb3) (by exact hb3.size) hF3
  have hF3H : Hid (∀ b, F b → W0.heap.size ≤ b) := Lib.hid (fun b hb => Nat.le_trans hbw2.out.size (hF3 b hb))
  have hs3W : Hid (W0.heap.size ≤ s) := Lib.hid (Nat.le_trans hbw2.out.size hs3)
  have hB := Lib.hid (built13_at (c := c2) hS (by rfl) hcf3 (by omega) hszm.out (by omega) (by simp; omega) (by omega) false)
  clear hS hF3 hb3 hN hcf3
  go_wp2_with fail
  refine hB.out.mono ?_
  rintro e w4 ⟨t, F4, R4, H4, rfl, hpr, hav, hgo, hS4, hH4, hT4⟩
  have hLf := leaf13_at hS4 prZ3 (by decide) (by decide) (by omega) (by rw [hH4]; simp; omega) (by omega)
  unfold prZ3 at hLf
  have hLfH := Lib.hid hLf
  obtain ⟨n4, hrd4, -⟩ := hS4.rd
  have hrt0 := BT.root_lt hgo.at' hrd4
  have hT4H := Lib.hid hT4
  have hsh4 : Hid (Short R4) := Lib.hid (hgo.short (fun x ws e => by cases e))
  obtain ⟨rt, hrte⟩ : ∃ rt, t.root = rt := ⟨_, rfl⟩
  have hrt : rt < 18446744073709551616 := hrte ▸ hrt0
  rw [hrte]
  clear hpr hav hgo hS4 hH4 hT4 hB hrd4 hLf hrt0 hrte
  go_wp2_with fail
  refine hLfH.out.mono ?_
  rintro e w5 ⟨xm, kx, vx, F5, R5, H5, rfl, gm, hS5, hH5, hT5, hxm⟩
  have hT5H := Lib.hid (hT4H.out.trans hT5)
  have hsh5 : Hid (Short R5) := Lib.hid (gm.short hsh4.out)
  have hF5W : Hid (∀ b, F5 b → W0.heap.size ≤ b) := Lib.hid (fun b hb => by
    rcases hT5H.out.grow b hb with h1 | h1
    · exact hF3H.out b h1
    · exact Nat.le_trans hb3H.out.size h1)
  have hF5 : Hid (∀ b, F5 b → w.heap.size ≤ b) := Lib.hid (fun b hb => Nat.le_trans hb0H.out.size (hF5W.out b hb))
  have hb5H := Lib.hid (hb3H.out.trans (hT5H.out.to_below hb3H.out.size hF3H.out))
  have hS5H := Lib.hid hS5
  obtain ⟨n5, hrd5, -⟩ := hS5.rd
  have hLi := Lib.hid (list_at hrd5 rt hrt)
  have hL5 := inR_len R5 n5 rt
  have hn5 := hrd5.le
  have hL5lt := Lib.hid (fun y (hy : y ∈ inR R5 n5 rt) => inR_lt (fun z => hrd5.nodeG z) hrt y hy)
  have hG5 := Lib.hid (fun W (hb : Below w5.heap.size w5 W) y hy nd hnd ee hz => nget_lit (hrd5.below hb) y hy nd hnd ee hz)
  have hok5 := Lib.hid (fun y => hrd5.nodeG y)
  generalize inR R5 n5 rt = L5 at *
  clear gm hS5 hH5 hT5 hrd5 hLfH
  go_wp2_with fail
  refine hLi.out.mono ?_
  rintro e w6 ⟨v6, rfl, hro6, hb6⟩
  have hb6H := Lib.hid hb6
  have hro6H := Lib.hid hro6
  have hlen5 : L5.length ≤ 1000000 := by omega
  clear hb6 hro6 hLi
  go_wp2_with (at_builtin; go_must (refine app_h rfl (.tmp 60) (.tmp 62) rfl _ w5.heap.size _ L5 rfl (hro6H.out.alloc _) w6.heap.size xm rfl (by go_simp) hlen5 (by have := hb6H.out.size; simp; omega) ?_))
  intro v7 w7 hro7 hg7 _
  have hb7 := Lib.hid (ownN_below ((hb6H.out.alloc hb6H.out.size _)) (hro6H.out.alloc _) hg7 (by have := hb6H.out.size; simp; omega))
  obtain ⟨Ls, hLs⟩ : ∃ Ls, L5 ++ [xm] = Ls := ⟨_, rfl⟩
  have hLs1 : Ls.length = L5.length + 1 := by rw [← hLs]; simp
  rw [hLs, ← hLs1] at hro7
  obtain ⟨g, cc, rfl, hgb, hgl⟩ := hro7.form (by omega)
  have hLslt : Hid (∀ y ∈ Ls, y < 18446744073709551616) := Lib.hid (fun y hy => by
    rw [← hLs] at hy
    rcases List.mem_append.1 hy with h1 | h1
    · exact hL5lt.out y h1
    · rw [List.mem_singleton.1 h1]; exact hxm)
  have hcells : Hid (∀ i (hi : i < Ls.length), w7.cell? ⟨g, i, none⟩ = some (.int .u64 (Ls[i] : Nat))) := Lib.hid (fun i hi => by
    refine (hro7.cellAt i (by omega)).trans ?_
    rw [hsV, List.getElem?_map, List.getElem?_eq_getElem hi]
    rfl)
  have hn1 : Ls.length ≤ 1000001 := by omega
  have hn0 : 0 < Ls.length := by omega
  clear hro7 hg7 hLs hLs1 hro6H hL5lt hL5 hlen5 hn5 hgb hgl
  obtain ⟨ix, hix, hixe, hi1, hi2⟩ := idx_any a Ls.length hn0
  have hc1 := hcells.out ix hix
  obtain ⟨hh, hhe⟩ : ∃ hh, Ls[ix] = hh := ⟨_, rfl⟩
  rw [hhe] at hc1
  have hhlt : hh < 18446744073709551616 := hhe ▸ hLslt.out _ (List.getElem_mem hix)
  obtain ⟨nd, hnd⟩ : ∃ nd, nodeG R5 hh = nd := ⟨_, rfl⟩
  obtain ⟨ee, hee⟩ : ∃ ee, nodeE R5 hh = ee := ⟨_, rfl⟩
  have hndok := Lib.hid (hnd ▸ hok5.out hh)
  have hG := Lib.hid (hG5.out w7 hb7.out hh hhlt nd hnd ee hee)
  clear hhe hnd hG5 hok5 hee
  go_wp2_with fail
  refine hG.out.mono ?_
  rintro e w8 ⟨rfl, hb8⟩
  have hb8H := Lib.hid (hb7.out.trans (hb8.mono hb7.out.size))
  have hb78 := Lib.hid hb8
  have hbx8 : Hid (Box w8 w.heap.size 53 [Value.int IntKind.u64 (x.key : Nat), Value.int IntKind.u64 (x.val : Nat), Value.int IntKind.u64 (x.left : Nat), Value.int IntKind.u64 (x.right : Nat), Value.int IntKind.u64 (x.mark : Nat), Value.int IntKind.u64 (x.size : Nat)]) := Lib.hid (hbxH.out.below (hb5H.out.trans (hb8H.out.mono hb5H.out.size)))
  have hlx8 : w.heap.size < w8.heap.size := hbx8.out.lt
  have hbw8 := Lib.hid (hb0H.out.trans ((hb5H.out.trans (hb8H.out.mono hb5H.out.size)).mono hb0H.out.size))
  have hwx : w.heap.size < W0.heap.size := hbxH.out.lt
  have hz8 : w7.heap.size ≤ w8.heap.size := hb8.size
  clear hb8 hc1 hi1 hi2 hixe hG
  have q0 := hbx8.out.at' (i := 0) rfl
  have q1 := hbx8.out.at' (i := 1) rfl
  have q2 := hbx8.out.at' (i := 2) rfl
  have q3 := hbx8.out.at' (i := 3) rfl
  have q4 := hbx8.out.at' (i := 4) rfl
  have q5 := hbx8.out.at' (i := 5) rfl
  cases sd with
  | false =>
    obtain ⟨w9, hw9⟩ : ∃ W, W = (w8.alloc (Obj.cells #[Value.int IntKind.u64 (nd.key : Nat), Value.int IntKind.u64 (nd.val : Nat), Value.int IntKind.u64 (nd.left : Nat), Value.int IntKind.u64 (nd.right : Nat), Value.int IntKind.u64 (nd.mark : Nat), Value.int IntKind.u64 (nd.size : Nat)] 53)) := ⟨_, rfl⟩
    have hb9 : Below w8.heap.size w8 w9 := by rw [hw9]; exact (Below.refl _ w8).alloc (Nat.le_refl _) _
    have hput := nput_any ((hS5H.out.below hb8H.out).below hb9) hh hhlt x hxok.out
    have hbwW := Lib.hid (hbw8.out.trans (hb9.mono hbw8.out.size))
    have hw9H := Lib.hid hw9
    clear hb9 hw9
    go_wp2_with fail
    clear q0 q1 q2 q3 q4 q5
    rw [← hw9H.out]
    unfold Nd.v at hput
    have hputH := Lib.hid hput
    clear hput
    refine hputH.out.mono ?_
    rintro e w6 ⟨rfl, hS6, hT6⟩
    obtain ⟨R6, hR6⟩ : ∃ R6, R6 = (if nodeE R5 hh = 0 then updR R5 hh (some (x : Nd).ws) else R5) := ⟨_, rfl⟩
    have hsh6 : Short R6 := by
      rw [hR6]
      split
      · exact hsh5.out.upd hh (some (x : Nd).ws) (fun ws e => by cases e; simp [Nd.ws])
      · exact hsh5.out
    rw [← hR6] at hS6
    obtain ⟨n6, hrd6, -⟩ := hS6.rd
    have hbw6 := Lib.hid (hbwW.out.trans (hT6.to_below hbwW.out.size hF5.out))
    have hAl := Lib.hid (sall_at hS6)
    have hCk := Lib.hid (fun W (hb : Below w6.heap.size w6 W) => rbCheck_at (hrd6.below hb) hsh6 rt hrt)
    have hLs := Lib.hid (fun W (hb : Below w6.heap.size w6 W) => list_at (hrd6.below hb) rt hrt)
    have hG6 := Lib.hid (fun W (hb : Below w6.heap.size w6 W) y hy nd hnd hz => nget_lit (hrd6.below hb) y hy nd hnd 0 hz)
    have hHt := Lib.hid (fun W (hb : Below w6.heap.size w6 W) y hy => tblack_at (hrd6.below hb) y hy)
    have hok6 := Lib.hid (fun y => hrd6.nodeG y)
    have hLen := inR_len R6 n6 rt
    have hle6 := hrd6.le
    have hLlt := Lib.hid (fun y (hy : y ∈ inR R6 n6 rt) => inR_lt (fun z => hrd6.nodeG z) hrt y hy)
    have hcok := Lib.hid (fun h0 => rcheck_ok (R := R6) (n := n6) (root := rt) h0 (hrd6.nodeG rt).size hle6)
    have hval := Lib.hid (rcheck_val R6 n6 rt)
    have hS6H := Lib.hid hS6
    generalize inR R6 n6 rt = L at *
    generalize rcheckR R6 n6 rt = C at *
    clear hS6 hT6 hrd6 hsh6 hR6 hputH
    go_wp2_with fail
    refine hAl.out.mono ?_
    rintro e w7 ⟨v7, Hs, rfl, hpm7, hro7, hb7⟩
    obtain ⟨A7, c7, rfl⟩ := ownsRow_form hro7
    have hb7H := Lib.hid hb7
    have hHl : Hid (H5.length = Hs.length) := Lib.hid (hpm7.length_eq).symm
    clear hb7 hro7 hpm7 hAl
    go_wp2_with fail
    refine (hCk.out _ hb7H.out).mono ?_
    rintro e w8 ⟨rfl, hb8⟩
    have hb8H := Lib.hid (hb7H.out.trans (hb8.mono hb7H.out.size))
    clear hb8 hCk
    rcases hval.out with hC0 | hC8
    · have hnode := Lib.hid (hcok.out hC0)
      subst hC0
      clear hval hcok
      go_wp2_with fail
      refine (hLs.out _ hb8H.out).mono ?_
      rintro e w10 ⟨v10, rfl, hro10, hb10⟩
      obtain ⟨A10, c10, rfl⟩ := ownsRow_form hro10
      have hb10H := Lib.hid (hb8H.out.trans (hb10.mono hb8H.out.size))
      have hcl : Hid (∀ i (hi : i < L.length), ∃ g, A10 = some ⟨g, 0, none⟩ ∧ ∀ W F', Turn w10 (fun _ => False) W F' → W.cell? ⟨g, i, none⟩ = some (.int .u64 (L[i] : Nat))) := Lib.hid (fun i hi => row_off hro10 (fun b hb => hb.elim) hi (by rw [hsV, List.getElem?_map, List.getElem?_eq_getElem hi]; rfl))
      clear hb10 hro10 hLs
      go_wp2_with fail
      go_loopw [23] (fun iv wr => ∃ k : Nat, k ≤ L.length ∧ iv = .int .i64 k ∧ Hid (Below w10.heap.size w10 wr)) (fun iv _ => L.length - (intOf iv).toNat)
      case atStart => exact ⟨0, by omega, rfl, Lib.hid (Below.refl _ _)⟩
      case round =>
        obtain ⟨k, hk9, rfl, hbr⟩ := hrel
        by_cases hlt : k < L.length
        · obtain ⟨g9, hA9, hg9⟩ := hcl.out k hlt
          have hc9 := hg9 wr _ (Turn.below hbr.out)
          have hbr6 := Lib.hid (hb10H.out.trans (hbr.out.mono hb10H.out.size))
          obtain ⟨hy0, hyb⟩ := hnode.out L[k] (List.getElem_mem hlt)
          have hylt := hLlt.out L[k] (List.getElem_mem hlt)
          have hnear := rbBad_none hyb
          obtain ⟨y, hy⟩ : ∃ y, L[k] = y := ⟨_, rfl⟩
          simp only [hy] at hc9 hy0 hylt hnear
          obtain ⟨t, ht⟩ : ∃ t, nodeG R6 y = t := ⟨_, rfl⟩
          have hokt := hok6.out y
          rw [ht] at hnear hokt
          have hGk := Lib.hid (hG6.out wr hbr6.out y hylt t ht hy0)
          have hoktH := Lib.hid hokt
          have hAL := Lib.hid (fun W hb => hHt.out W hb t.left hokt.left)
          have hAR := Lib.hid (fun W hb => hHt.out W hb t.right hokt.right)
          have hg9H : Hid (∀ W F', Turn w10 (fun _ => False) W F' → W.cell? ⟨g9, k, none⟩ = some (.int .u64 (y : Nat))) := Lib.hid (fun W F' ht => by have := hg9 W F' ht; rw [hy] at this; exact this)
          have hAY := Lib.hid (fun W hb => hHt.out W hb y hylt)
          generalize rbB R6 t.left = b1 at *
          generalize rbB R6 t.right = b2 at *
          generalize rbB R6 y = by1 at *
          generalize rbRed R6 t.left = r1 at *
          generalize rbRed R6 t.right = r2 at *
          generalize rbRed R6 y = ry at *
          obtain ⟨rfl, hrr⟩ := hnear
          have q1 : ((b2 : Int) != (b2 : Int)) = false := by simp
          subst hA9
          clear hg9 hy0 hyb hy ht hokt
          go_wp2_with fail
          refine hGk.out.mono ?_
          rintro e w12 ⟨rfl, hb12⟩
          have hb12H := Lib.hid (hbr.out.trans (hb12.mono hbr.out.size))
          have hz12 := hb12H.out.size
          clear hb12 hc9 hGk
          go_wp2_with fail
          obtain ⟨W3, hW⟩ : ∃ W, W = w12.alloc (Obj.cells #[Value.int IntKind.u64 (t.key : Nat), Value.int IntKind.u64 (t.val : Nat), Value.int IntKind.u64 (t.left : Nat), Value.int IntKind.u64 (t.right : Nat), Value.int IntKind.u64 (t.mark : Nat), Value.int IntKind.u64 (t.size : Nat)] 53) := ⟨_, rfl⟩
          obtain ⟨b3, hb3e⟩ : ∃ b, b = w12.heap.size := ⟨_, rfl⟩
          have hX3 : Hid (Box W3 b3 53 [Value.int IntKind.u64 (t.key : Nat), Value.int IntKind.u64 (t.val : Nat), Value.int IntKind.u64 (t.left : Nat), Value.int IntKind.u64 (t.right : Nat), Value.int IntKind.u64 (t.mark : Nat), Value.int IntKind.u64 (t.size : Nat)]) := Lib.hid (by rw [hW, hb3e]; exact Box.new w12 53 [Value.int IntKind.u64 (t.key : Nat), Value.int IntKind.u64 (t.val : Nat), Value.int IntKind.u64 (t.left : Nat), Value.int IntKind.u64 (t.right : Nat), Value.int IntKind.u64 (t.mark : Nat), Value.int IntKind.u64 (t.size : Nat)])
          have hBr3 : Hid (Below w10.heap.size w10 W3) := Lib.hid (by rw [hW]; exact hb12H.out.alloc hz12 _)
          rw [← hW, ← hb3e]
          clear hW hb3e hz12 hb12H
          have hB63 := Lib.hid (hb10H.out.trans (hBr3.out.mono hb10H.out.size))
          cases ry with
          | true =>
            obtain ⟨rfl, rfl⟩ := hrr rfl
            have c2 := hX3.out.at' (i := 2) rfl
            have c3 := hX3.out.at' (i := 3) rfl
            go_wp2_with fail
            refine (hAL.out _ hB63.out).mono ?_
            rintro e W23 ⟨rfl, hb⟩
            have hB623 := Lib.hid (hB63.out.trans (hb.mono hB63.out.size))
            have hBr23 := Lib.hid (hBr3.out.trans (hb.mono hBr3.out.size))
            have hX23 := Lib.hid (hX3.out.below hb)
            clear hb c2 c3 hB63 hBr3 hX3
            have c2 := hX23.out.at' (i := 2) rfl
            have c3 := hX23.out.at' (i := 3) rfl
            go_wp2_with fail
            refine (hAR.out _ hB623.out).mono ?_
            rintro e W43 ⟨rfl, hb⟩
            have hB643 := Lib.hid (hB623.out.trans (hb.mono hB623.out.size))
            have hBr43 := Lib.hid (hBr23.out.trans (hb.mono hBr23.out.size))
            have hX43 := Lib.hid (hX23.out.below hb)
            clear hb c2 c3 hB623 hBr23 hX23
            have c9 := hg9H.out W43 _ (Turn.below hBr43.out)
            have c2 := hX43.out.at' (i := 2) rfl
            have c3 := hX43.out.at' (i := 3) rfl
            go_wp2_with fail
            refine (hAY.out _ hB643.out).mono ?_
            rintro e W63 ⟨rfl, hb⟩
            have hB663 := Lib.hid (hB643.out.trans (hb.mono hB643.out.size))
            have hBr63 := Lib.hid (hBr43.out.trans (hb.mono hBr43.out.size))
            have hX63 := Lib.hid (hX43.out.below hb)
            clear hb c2 c3 hB643 hBr43 hX43
            go_wp2
            go_roundw
            case rel => exact ⟨k + 1, by omega, by go_num, hBr63⟩
            case measure => simp [intOf]; omega
          | false =>
            have c2 := hX3.out.at' (i := 2) rfl
            have c3 := hX3.out.at' (i := 3) rfl
            go_wp2_with fail
            refine (hAL.out _ hB63.out).mono ?_
            rintro e W23 ⟨rfl, hb⟩
            have hB623 := Lib.hid (hB63.out.trans (hb.mono hB63.out.size))
            have hBr23 := Lib.hid (hBr3.out.trans (hb.mono hBr3.out.size))
            have hX23 := Lib.hid (hX3.out.below hb)
            clear hb c2 c3 hB63 hBr3 hX3
            have c2 := hX23.out.at' (i := 2) rfl
            have c3 := hX23.out.at' (i := 3) rfl
            go_wp2_with fail
            refine (hAR.out _ hB623.out).mono ?_
            rintro e W43 ⟨rfl, hb⟩
            have hB643 := Lib.hid (hB623.out.trans (hb.mono hB623.out.size))
            have hBr43 := Lib.hid (hBr23.out.trans (hb.mono hBr23.out.size))
            have hX43 := Lib.hid (hX23.out.below hb)
            clear hb c2 c3 hB623 hBr23 hX23
            have c9 := hg9H.out W43 _ (Turn.below hBr43.out)
            have c2 := hX43.out.at' (i := 2) rfl
            have c3 := hX43.out.at' (i := 3) rfl
            go_wp2_with fail
            refine (hAY.out _ hB643.out).mono ?_
            rintro e W63 ⟨rfl, hb⟩
            have hB663 := Lib.hid (hB643.out.trans (hb.mono hB643.out.size))
            have hBr63 := Lib.hid (hBr43.out.trans (hb.mono hBr43.out.size))
            have hX63 := Lib.hid (hX43.out.below hb)
            clear hb c2 c3 hB643 hBr43 hX43
            go_wp2
            go_roundw
            case rel => exact ⟨k + 1, by omega, by go_num, hBr63⟩
            case measure => simp [intOf]; omega
        · obtain rfl : k = L.length := by omega
          have hbr6 := Lib.hid (hb10H.out.trans (hbr.out.mono hb10H.out.size))
          have hS7 := hS6H.out.below hbr6.out
          have hJ1 := Lib.hid (rbTop_at hS7 rt xm 0 hrt hxm (by omega))
          clear hS7
          go_wp2_with fail
          refine hJ1.out.mono ?_
          rintro e w20 ⟨rfl, hS8, hT8⟩
          have hT8H := Lib.hid ((Turn.below (F := F5) hbr6.out).trans hT8)
          have hJ2 := Lib.hid (rbTop_at hS8 hh xm rt hhlt hxm hrt)
          generalize rbJ R6 rt xm 0 = pj at *
          clear hS8 hT8 hJ1
          go_wp2_with fail
          refine hJ2.out.mono ?_
          rintro e w21 ⟨rfl, hS9, hT9⟩
          have hT9H := Lib.hid (hT8H.out.trans hT9)
          have hAl2 := Lib.hid (sall_at hS9)
          generalize rbJ pj.1 hh xm rt = pk at *
          clear hS9 hT9 hJ2
          go_wp2_with fail
          refine hAl2.out.mono ?_
          rintro e w22 ⟨v22, Hs2, rfl, hpm22, hro22, hb22⟩
          obtain ⟨A22, c22, rfl⟩ := ownsRow_form hro22
          have hlen22 : Hs2.length = Hs.length := by rw [hpm22.length_eq, hHl.out]
          rw [hlen22]
          have e4 : ((Hs.length : Int) == (Hs.length : Int)) = true := by simp
          have hbw22 := Lib.hid (hbw6.out.trans ((hT9H.out.to_below hbw6.out.size hF5.out).trans (hb22.mono (Nat.le_trans hbw6.out.size hT9H.out.size))))
          have hAw := Lib.hid (awake13_at (hTw.out.below hbw22.out (tab_lt hTw.out)))
          clear hb22 hro22 hpm22 hlen22 hAl2
          go_wp2_with fail
          refine hAw.out.mono ?_
          rintro e w23 ⟨rfl, hb23⟩
          have hb23H := Lib.hid (hbw22.out.trans (hb23.mono hbw22.out.size))
          clear hb23
          go_wp2
          go_ret
          exact ⟨rfl, hb23H.out⟩
    · subst hC8
      clear hval hcok hLs
      have hS7 := hS6H.out.below hb8H.out
      have hJ1 := Lib.hid (rbTop_at hS7 rt xm 0 hrt hxm (by omega))
      clear hS7
      go_wp2_with fail
      refine hJ1.out.mono ?_
      rintro e w20 ⟨rfl, hS8, hT8⟩
      have hT8H := Lib.hid ((Turn.below (F := F5) hb8H.out).trans hT8)
      have hJ2 := Lib.hid (rbTop_at hS8 hh xm rt hhlt hxm hrt)
      generalize rbJ R6 rt xm 0 = pj at *
      clear hS8 hT8 hJ1
      go_wp2_with fail
      refine hJ2.out.mono ?_
      rintro e w21 ⟨rfl, hS9, hT9⟩
      have hT9H := Lib.hid (hT8H.out.trans hT9)
      have hAl2 := Lib.hid (sall_at hS9)
      generalize rbJ pj.1 hh xm rt = pk at *
      clear hS9 hT9 hJ2
      go_wp2_with fail
      refine hAl2.out.mono ?_
      rintro e w22 ⟨v22, Hs2, rfl, hpm22, hro22, hb22⟩
      obtain ⟨A22, c22, rfl⟩ := ownsRow_form hro22
      have hlen22 : Hs2.length = Hs.length := by rw [hpm22.length_eq, hHl.out]
      rw [hlen22]
      have e4 : ((Hs.length : Int) == (Hs.length : Int)) = true := by simp
      have hbw22 := Lib.hid (hbw6.out.trans ((hT9H.out.to_below hbw6.out.size hF5.out).trans (hb22.mono (Nat.le_trans hbw6.out.size hT9H.out.size))))
      have hAw := Lib.hid (awake13_at (hTw.out.below hbw22.out (tab_lt hTw.out)))
      clear hb22 hro22 hpm22 hlen22 hAl2
      go_wp2_with fail
      refine hAw.out.mono ?_
      rintro e w23 ⟨rfl, hb23⟩
      have hb23H := Lib.hid (hbw22.out.trans (hb23.mono hbw22.out.size))
      clear hb23
      go_wp2
      go_ret
      exact ⟨rfl, hb23H.out⟩
  | true =>
    obtain ⟨jx, hjx, hjxe, hj1, hj2⟩ := idx_any a2 Ls.length hn0
    have hcj : (w8.cell? ⟨g, jx, none⟩) = some (.int .u64 (Ls[jx] : Nat)) := (hb78.out.cell (p := ⟨g, jx, none⟩) (cell_lt (hcells.out jx hjx))).trans (hcells.out jx hjx)
    obtain ⟨y, hy⟩ : ∃ y, Ls[jx] = y := ⟨_, rfl⟩
    rw [hy] at hcj
    have hylt : y < 18446744073709551616 := hy ▸ hLslt.out _ (List.getElem_mem hjx)
    have hb9 : Below w8.heap.size w8 (w8.alloc (Obj.cells #[Value.int IntKind.u64 (nd.key : Nat), Value.int IntKind.u64 (nd.val : Nat), Value.int IntKind.u64 (nd.left : Nat), Value.int IntKind.u64 (nd.right : Nat), Value.int IntKind.u64 (nd.mark : Nat), Value.int IntKind.u64 (nd.size : Nat)] 53)) := (Below.refl _ w8).alloc (Nat.le_refl _) _
    have hcj9 := (hb9.cell (p := ⟨g, jx, none⟩) (cell_lt hcj)).trans hcj
    have f0 := hbx8.out.free 0
    have f1 := hbx8.out.free 1
    have f2 := hbx8.out.free 2
    have f3 := hbx8.out.free 3
    have f4 := hbx8.out.free 4
    have f5 := hbx8.out.free 5
    have hxn : (Nd.mk nd.key nd.val nd.left y nd.mark nd.size).Ok := ⟨hndok.out.key, hndok.out.val, hndok.out.left, hylt, hndok.out.mark, hndok.out.size⟩
    obtain ⟨W5, hW5⟩ : ∃ W5, W5 = (setSix w8 w.heap.size (Value.int IntKind.u64 (nd.key : Nat)) (Value.int IntKind.u64 (nd.val : Nat)) (Value.int IntKind.u64 (nd.left : Nat)) (Value.int IntKind.u64 (y : Nat)) (Value.int IntKind.u64 (nd.mark : Nat)) (Value.int IntKind.u64 (nd.size : Nat))) := ⟨_, rfl⟩
    have hkb : KB (fun k => k = w.heap.size) w8 W5 := by rw [hW5]; exact setSix_kb _ _ _ _ _ _ _ _
    have hS5' := Lib.hid ((hS5H.out.below hb8H.out).kb hkb (fun k hk hF => by have := hF5W.out k hF; omega) (by have := hs3W.out; omega) (fun k hk p e => by rw [hk, q0] at e; cases e) (by have := tab_lt hTw.out; omega))
    have hbw5 : Hid (Below w.heap.size w W5) := Lib.hid (by rw [hW5]; exact setSix_below hbw8.out (Nat.le_refl _) _ _ _ _ _ _)
    have hW5H := Lib.hid hW5
    clear hb9 hy hkb hW5
    go_wp2_with fail
    clear f0 f1 f2 f3 f4 f5 q0 q1 q2 q3 q4 q5
    rw [setSix_eq, ← hW5H.out]
    have hb56 : Below W5.heap.size W5 (W5.alloc (Obj.cells #[Value.int IntKind.u64 (nd.key : Nat), Value.int IntKind.u64 (nd.val : Nat), Value.int IntKind.u64 (nd.left : Nat), Value.int IntKind.u64 (y : Nat), Value.int IntKind.u64 (nd.mark : Nat), Value.int IntKind.u64 (nd.size : Nat)] 53)) := (Below.refl _ _).alloc (Nat.le_refl _) _
    have hput := nput_any (hS5'.out.below hb56) hh hhlt ⟨nd.key, nd.val, nd.left, y, nd.mark, nd.size⟩ hxn
    have hbwW := Lib.hid (hbw5.out.trans (hb56.mono hbw5.out.size))
    clear hb56
    unfold Nd.v at hput
    have hputH := Lib.hid hput
    clear hput
    refine hputH.out.mono ?_
    rintro e w6 ⟨rfl, hS6, hT6⟩
    obtain ⟨R6, hR6⟩ : ∃ R6, R6 = (if nodeE R5 hh = 0 then updR R5 hh (some (Nd.mk nd.key nd.val nd.left y nd.mark nd.size : Nd).ws) else R5) := ⟨_, rfl⟩
    have hsh6 : Short R6 := by
      rw [hR6]
      split
      · exact hsh5.out.upd hh (some (Nd.mk nd.key nd.val nd.left y nd.mark nd.size : Nd).ws) (fun ws e => by cases e; simp [Nd.ws])
      · exact hsh5.out
    rw [← hR6] at hS6
    obtain ⟨n6, hrd6, -⟩ := hS6.rd
    have hbw6 := Lib.hid (hbwW.out.trans (hT6.to_below hbwW.out.size hF5.out))
    have hAl := Lib.hid (sall_at hS6)
    have hCk := Lib.hid (fun W (hb : Below w6.heap.size w6 W) => rbCheck_at (hrd6.below hb) hsh6 rt hrt)
    have hLs := Lib.hid (fun W (hb : Below w6.heap.size w6 W) => list_at (hrd6.below hb) rt hrt)
    have hG6 := Lib.hid (fun W (hb : Below w6.heap.size w6 W) y hy nd hnd hz => nget_lit (hrd6.below hb) y hy nd hnd 0 hz)
    have hHt := Lib.hid (fun W (hb : Below w6.heap.size w6 W) y hy => tblack_at (hrd6.below hb) y hy)
    have hok6 := Lib.hid (fun y => hrd6.nodeG y)
    have hLen := inR_len R6 n6 rt
    have hle6 := hrd6.le
    have hLlt := Lib.hid (fun y (hy : y ∈ inR R6 n6 rt) => inR_lt (fun z => hrd6.nodeG z) hrt y hy)
    have hcok := Lib.hid (fun h0 => rcheck_ok (R := R6) (n := n6) (root := rt) h0 (hrd6.nodeG rt).size hle6)
    have hval := Lib.hid (rcheck_val R6 n6 rt)
    have hS6H := Lib.hid hS6
    generalize inR R6 n6 rt = L at *
    generalize rcheckR R6 n6 rt = C at *
    clear hS6 hT6 hrd6 hsh6 hR6 hputH
    go_wp2_with fail
    refine hAl.out.mono ?_
    rintro e w7 ⟨v7, Hs, rfl, hpm7, hro7, hb7⟩
    obtain ⟨A7, c7, rfl⟩ := ownsRow_form hro7
    have hb7H := Lib.hid hb7
    have hHl : Hid (H5.length = Hs.length) := Lib.hid (hpm7.length_eq).symm
    clear hb7 hro7 hpm7 hAl
    go_wp2_with fail
    refine (hCk.out _ hb7H.out).mono ?_
    rintro e w8 ⟨rfl, hb8⟩
    have hb8H := Lib.hid (hb7H.out.trans (hb8.mono hb7H.out.size))
    clear hb8 hCk
    rcases hval.out with hC0 | hC8
    · have hnode := Lib.hid (hcok.out hC0)
      subst hC0
      clear hval hcok
      go_wp2_with fail
      refine (hLs.out _ hb8H.out).mono ?_
      rintro e w10 ⟨v10, rfl, hro10, hb10⟩
      obtain ⟨A10, c10, rfl⟩ := ownsRow_form hro10
      have hb10H := Lib.hid (hb8H.out.trans (hb10.mono hb8H.out.size))
      have hcl : Hid (∀ i (hi : i < L.length), ∃ g, A10 = some ⟨g, 0, none⟩ ∧ ∀ W F', Turn w10 (fun _ => False) W F' → W.cell? ⟨g, i, none⟩ = some (.int .u64 (L[i] : Nat))) := Lib.hid (fun i hi => row_off hro10 (fun b hb => hb.elim) hi (by rw [hsV, List.getElem?_map, List.getElem?_eq_getElem hi]; rfl))
      clear hb10 hro10 hLs
      go_wp2_with fail
      go_loopw [23] (fun iv wr => ∃ k : Nat, k ≤ L.length ∧ iv = .int .i64 k ∧ Hid (Below w10.heap.size w10 wr)) (fun iv _ => L.length - (intOf iv).toNat)
      case atStart => exact ⟨0, by omega, rfl, Lib.hid (Below.refl _ _)⟩
      case round =>
        obtain ⟨k, hk9, rfl, hbr⟩ := hrel
        by_cases hlt : k < L.length
        · obtain ⟨g9, hA9, hg9⟩ := hcl.out k hlt
          have hc9 := hg9 wr _ (Turn.below hbr.out)
          have hbr6 := Lib.hid (hb10H.out.trans (hbr.out.mono hb10H.out.size))
          obtain ⟨hy0, hyb⟩ := hnode.out L[k] (List.getElem_mem hlt)
          have hylt := hLlt.out L[k] (List.getElem_mem hlt)
          have hnear := rbBad_none hyb
          obtain ⟨y, hy⟩ : ∃ y, L[k] = y := ⟨_, rfl⟩
          simp only [hy] at hc9 hy0 hylt hnear
          obtain ⟨t, ht⟩ : ∃ t, nodeG R6 y = t := ⟨_, rfl⟩
          have hokt := hok6.out y
          rw [ht] at hnear hokt
          have hGk := Lib.hid (hG6.out wr hbr6.out y hylt t ht hy0)
          have hoktH := Lib.hid hokt
          have hAL := Lib.hid (fun W hb => hHt.out W hb t.left hokt.left)
          have hAR := Lib.hid (fun W hb => hHt.out W hb t.right hokt.right)
          have hg9H : Hid (∀ W F', Turn w10 (fun _ => False) W F' → W.cell? ⟨g9, k, none⟩ = some (.int .u64 (y : Nat))) := Lib.hid (fun W F' ht => by have := hg9 W F' ht; rw [hy] at this; exact this)
          have hAY := Lib.hid (fun W hb => hHt.out W hb y hylt)
          generalize rbB R6 t.left = b1 at *
          generalize rbB R6 t.right = b2 at *
          generalize rbB R6 y = by1 at *
          generalize rbRed R6 t.left = r1 at *
          generalize rbRed R6 t.right = r2 at *
          generalize rbRed R6 y = ry at *
          obtain ⟨rfl, hrr⟩ := hnear
          have q1 : ((b2 : Int) != (b2 : Int)) = false := by simp
          subst hA9
          clear hg9 hy0 hyb hy ht hokt
          go_wp2_with fail
          refine hGk.out.mono ?_
          rintro e w12 ⟨rfl, hb12⟩
          have hb12H := Lib.hid (hbr.out.trans (hb12.mono hbr.out.size))
          have hz12 := hb12H.out.size
          clear hb12 hc9 hGk
          go_wp2_with fail
          obtain ⟨W3, hW⟩ : ∃ W, W = w12.alloc (Obj.cells #[Value.int IntKind.u64 (t.key : Nat), Value.int IntKind.u64 (t.val : Nat), Value.int IntKind.u64 (t.left : Nat), Value.int IntKind.u64 (t.right : Nat), Value.int IntKind.u64 (t.mark : Nat), Value.int IntKind.u64 (t.size : Nat)] 53) := ⟨_, rfl⟩
          obtain ⟨b3, hb3e⟩ : ∃ b, b = w12.heap.size := ⟨_, rfl⟩
          have hX3 : Hid (Box W3 b3 53 [Value.int IntKind.u64 (t.key : Nat), Value.int IntKind.u64 (t.val : Nat), Value.int IntKind.u64 (t.left : Nat), Value.int IntKind.u64 (t.right : Nat), Value.int IntKind.u64 (t.mark : Nat), Value.int IntKind.u64 (t.size : Nat)]) := Lib.hid (by rw [hW, hb3e]; exact Box.new w12 53 [Value.int IntKind.u64 (t.key : Nat), Value.int IntKind.u64 (t.val : Nat), Value.int IntKind.u64 (t.left : Nat), Value.int IntKind.u64 (t.right : Nat), Value.int IntKind.u64 (t.mark : Nat), Value.int IntKind.u64 (t.size : Nat)])
          have hBr3 : Hid (Below w10.heap.size w10 W3) := Lib.hid (by rw [hW]; exact hb12H.out.alloc hz12 _)
          rw [← hW, ← hb3e]
          clear hW hb3e hz12 hb12H
          have hB63 := Lib.hid (hb10H.out.trans (hBr3.out.mono hb10H.out.size))
          cases ry with
          | true =>
            obtain ⟨rfl, rfl⟩ := hrr rfl
            have c2 := hX3.out.at' (i := 2) rfl
            have c3 := hX3.out.at' (i := 3) rfl
            go_wp2_with fail
            refine (hAL.out _ hB63.out).mono ?_
            rintro e W23 ⟨rfl, hb⟩
            have hB623 := Lib.hid (hB63.out.trans (hb.mono hB63.out.size))
            have hBr23 := Lib.hid (hBr3.out.trans (hb.mono hBr3.out.size))
            have hX23 := Lib.hid (hX3.out.below hb)
            clear hb c2 c3 hB63 hBr3 hX3
            have c2 := hX23.out.at' (i := 2) rfl
            have c3 := hX23.out.at' (i := 3) rfl
            go_wp2_with fail
            refine (hAR.out _ hB623.out).mono ?_
            rintro e W43 ⟨rfl, hb⟩
            have hB643 := Lib.hid (hB623.out.trans (hb.mono hB623.out.size))
            have hBr43 := Lib.hid (hBr23.out.trans (hb.mono hBr23.out.size))
            have hX43 := Lib.hid (hX23.out.below hb)
            clear hb c2 c3 hB623 hBr23 hX23
            have c9 := hg9H.out W43 _ (Turn.below hBr43.out)
            have c2 := hX43.out.at' (i := 2) rfl
            have c3 := hX43.out.at' (i := 3) rfl
            go_wp2_with fail
            refine (hAY.out _ hB643.out).mono ?_
            rintro e W63 ⟨rfl, hb⟩
            have hB663 := Lib.hid (hB643.out.trans (hb.mono hB643.out.size))
            have hBr63 := Lib.hid (hBr43.out.trans (hb.mono hBr43.out.size))
            have hX63 := Lib.hid (hX43.out.below hb)
            clear hb c2 c3 hB643 hBr43 hX43
            go_wp2
            go_roundw
            case rel => exact ⟨k + 1, by omega, by go_num, hBr63⟩
            case measure => simp [intOf]; omega
          | false =>
            have c2 := hX3.out.at' (i := 2) rfl
            have c3 := hX3.out.at' (i := 3) rfl
            go_wp2_with fail
            refine (hAL.out _ hB63.out).mono ?_
            rintro e W23 ⟨rfl, hb⟩
            have hB623 := Lib.hid (hB63.out.trans (hb.mono hB63.out.size))
            have hBr23 := Lib.hid (hBr3.out.trans (hb.mono hBr3.out.size))
            have hX23 := Lib.hid (hX3.out.below hb)
            clear hb c2 c3 hB63 hBr3 hX3
            have c2 := hX23.out.at' (i := 2) rfl
            have c3 := hX23.out.at' (i := 3) rfl
            go_wp2_with fail
            refine (hAR.out _ hB623.out).mono ?_
            rintro e W43 ⟨rfl, hb⟩
            have hB643 := Lib.hid (hB623.out.trans (hb.mono hB623.out.size))
            have hBr43 := Lib.hid (hBr23.out.trans (hb.mono hBr23.out.size))
            have hX43 := Lib.hid (hX23.out.below hb)
            clear hb c2 c3 hB623 hBr23 hX23
            have c9 := hg9H.out W43 _ (Turn.below hBr43.out)
            have c2 := hX43.out.at' (i := 2) rfl
            have c3 := hX43.out.at' (i := 3) rfl
            go_wp2_with fail
            refine (hAY.out _ hB643.out).mono ?_
            rintro e W63 ⟨rfl, hb⟩
            have hB663 := Lib.hid (hB643.out.trans (hb.mono hB643.out.size))
            have hBr63 := Lib.hid (hBr43.out.trans (hb.mono hBr43.out.size))
            have hX63 := Lib.hid (hX43.out.below hb)
            clear hb c2 c3 hB643 hBr43 hX43
            go_wp2
            go_roundw
            case rel => exact ⟨k + 1, by omega, by go_num, hBr63⟩
            case measure => simp [intOf]; omega
        · obtain rfl : k = L.length := by omega
          have hbr6 := Lib.hid (hb10H.out.trans (hbr.out.mono hb10H.out.size))
          have hS7 := hS6H.out.below hbr6.out
          have hJ1 := Lib.hid (rbTop_at hS7 rt xm 0 hrt hxm (by omega))
          clear hS7
          go_wp2_with fail
          refine hJ1.out.mono ?_
          rintro e w20 ⟨rfl, hS8, hT8⟩
          have hT8H := Lib.hid ((Turn.below (F := F5) hbr6.out).trans hT8)
          have hJ2 := Lib.hid (rbTop_at hS8 hh xm rt hhlt hxm hrt)
          generalize rbJ R6 rt xm 0 = pj at *
          clear hS8 hT8 hJ1
          go_wp2_with fail
          refine hJ2.out.mono ?_
          rintro e w21 ⟨rfl, hS9, hT9⟩
          have hT9H := Lib.hid (hT8H.out.trans hT9)
          have hAl2 := Lib.hid (sall_at hS9)
          generalize rbJ pj.1 hh xm rt = pk at *
          clear hS9 hT9 hJ2
          go_wp2_with fail
          refine hAl2.out.mono ?_
          rintro e w22 ⟨v22, Hs2, rfl, hpm22, hro22, hb22⟩
          obtain ⟨A22, c22, rfl⟩ := ownsRow_form hro22
          have hlen22 : Hs2.length = Hs.length := by rw [hpm22.length_eq, hHl.out]
          rw [hlen22]
          have e4 : ((Hs.length : Int) == (Hs.length : Int)) = true := by simp
          have hbw22 := Lib.hid (hbw6.out.trans ((hT9H.out.to_below hbw6.out.size hF5.out).trans (hb22.mono (Nat.le_trans hbw6.out.size hT9H.out.size))))
          have hAw := Lib.hid (awake13_at (hTw.out.below hbw22.out (tab_lt hTw.out)))
          clear hb22 hro22 hpm22 hlen22 hAl2
          go_wp2_with fail
          refine hAw.out.mono ?_
          rintro e w23 ⟨rfl, hb23⟩
          have hb23H := Lib.hid (hbw22.out.trans (hb23.mono hbw22.out.size))
          clear hb23
          go_wp2
          go_ret
          exact ⟨rfl, hb23H.out⟩
    · subst hC8
      clear hval hcok hLs
      have hS7 := hS6H.out.below hb8H.out
      have hJ1 := Lib.hid (rbTop_at hS7 rt xm 0 hrt hxm (by omega))
      clear hS7
      go_wp2_with fail
      refine hJ1.out.mono ?_
      rintro e w20 ⟨rfl, hS8, hT8⟩
      have hT8H := Lib.hid ((Turn.below (F := F5) hb8H.out).trans hT8)
      have hJ2 := Lib.hid (rbTop_at hS8 hh xm rt hhlt hxm hrt)
      generalize rbJ R6 rt xm 0 = pj at *
      clear hS8 hT8 hJ1
      go_wp2_with fail
      refine hJ2.out.mono ?_
      rintro e w21 ⟨rfl, hS9, hT9⟩
      have hT9H := Lib.hid (hT8H.out.trans hT9)
      have hAl2 := Lib.hid (sall_at hS9)
      generalize rbJ pj.1 hh xm rt = pk at *
      clear hS9 hT9 hJ2
      go_wp2_with fail
      refine hAl2.out.mono ?_
      rintro e w22 ⟨v22, Hs2, rfl, hpm22, hro22, hb22⟩
      obtain ⟨A22, c22, rfl⟩ := ownsRow_form hro22
      have hlen22 : Hs2.length = Hs.length := by rw [hpm22.length_eq, hHl.out]
      rw [hlen22]
      have e4 : ((Hs.length : Int) == (Hs.length : Int)) = true := by simp
      have hbw22 := Lib.hid (hbw6.out.trans ((hT9H.out.to_below hbw6.out.size hF5.out).trans (hb22.mono (Nat.le_trans hbw6.out.size hT9H.out.size))))
      have hAw := Lib.hid (awake13_at (hTw.out.below hbw22.out (tab_lt hTw.out)))
      clear hb22 hro22 hpm22 hlen22 hAl2
      go_wp2_with fail
      refine hAw.out.mono ?_
      rintro e w23 ⟨rfl, hb23⟩
      have hb23H := Lib.hid (hbw22.out.trans (hb23.mono hbw22.out.size))
      clear hb23
      go_wp2
      go_ret
      exact ⟨rfl, hb23H.out⟩
end Go.Proofs.YtjpmlneihbckpaaGreatDoor

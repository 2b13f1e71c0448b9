/-
  The seat's own texts, part i: Live, AllS, Two, WrongP, Nil, Nil2, Base.
-/
import Derived.Test.YtjpmlneihbckpaaGreatDoorMh
import Derived.Maps.OwnIn
import Derived.Deep.DeepMust
import Derived.Deep.Onto
import Derived.Maps.AppendAt
/- The walk of heap.Live: all blocks. -/
set_option linter.unusedVariables false
set_option linter.unusedSimpArgs false
namespace Go.Proofs.YtjpmlneihbckpaaGreatDoor
open Go.RowKit Go.Shelf
attribute [local go_sem] Oper.semAt_some wide_fn
theorem Tryz.under_ints : Tryz.prog.underlying 60 = some (.slice 3) := by kernel_rfl
theorem Tryz.info_int : (Tryz.prog.info? 3).map (fun i => (i.zero, i.size, i.bytes)) = some (some (.int .i64 0), 1, 8) := by kernel_rfl
def rowsOf (l : List (Nat × Nat)) : List Value := l.map fun b => .int .i64 (b.1 : Nat)
/-- the box of a row, and that row's block -/
def OutE (B : Nat) (W : World) (k : Nat) : Prop := k = B ∨ ∃ m c, W.cell? ⟨B, 0, none⟩ = some (.slice (some ⟨k, 0, none⟩) m c)
theorem outE_below {B : Nat} {X Y : World} (hB : B < X.heap.size) (hb : Below X.heap.size X Y) (k : Nat) (h : OutE B Y k) : OutE B X k := by
  rcases h with h | ⟨m, c, h⟩
  · exact .inl h
  · exact .inr ⟨m, c, (hb.cell (p := ⟨B, 0, none⟩) hB).symm.trans h⟩
theorem outE_put {B : Nat} {W : World} {l : Nat} (o' : Obj) (hl : B ≠ l) (k : Nat) (h : OutE B (W.putObj l o') k) : OutE B W k := by
  rcases h with h | ⟨m, c, h⟩
  · exact .inl h
  · refine .inr ⟨m, c, (World.cell?_of_block (a := ⟨B, 0, none⟩) ?_).symm.trans h⟩
    exact World.putObj_heap_other hl
/-- the row that has been told so far -/
def LiveI (w : World) (l : List (Nat × Nat)) (W : World) : Prop := ∃ v, Boxed W w.heap.size 60 v ∧ W.ownsRow w.heap.size 3 1 v l.length (rowsOf l) ∧ Below w.heap.size w W
theorem LiveI.below {w X Y : World} {l : List (Nat × Nat)} (h : LiveI w l X) (hb : Below X.heap.size X Y) : LiveI w l Y := by
  obtain ⟨v, h1, h2, h3⟩ := h
  exact ⟨v, (hb.block _ h1.lt).trans h1, ownsRow_kb (Cs := fun _ => False) h2 (KB.below hb) (fun _ h => h.elim), h3.trans (hb.mono h3.size)⟩
theorem liveI_own {β : Type} (w : World) (f : β → List (Nat × Nat)) (n : Nat) (hn : w.heap.size ≤ n) : OwnFrom n (fun s W => LiveI w (f s) W) := fun s X Y row hs hg hr => by
  obtain ⟨v, h1, h2, h3⟩ := hs
  obtain ⟨v', a, b, _⟩ := holdsRow_own w.heap.size w.heap.size 60 3 1 (fun s => (f s).length) (fun s => rowsOf (f s)) (fun _ _ => True) s X Y row ⟨v, h1, h2, trivial⟩ hg (fun r e => (hr r e).2)
  exact ⟨v', a, b, ownFrom_below (β := β) (Nat.le_refl _) hn s X Y row h3 hg hr⟩
/-- a block that is neither the row's box nor its block -/
structure BoxOff (W : World) (B3 B : Nat) : Prop where
  ne : B ≠ B3
  off : ∃ u, W.cell? ⟨B3, 0, none⟩ = some u ∧ u.ownBlock ≠ some B
/-- what an append leaves -/
theorem live_append {w W w1 : World} {l l' : List (Nat × Nat)} {v v' : Value} {tmp : Obj} (hv : Boxed W w.heap.size 60 v) (hrow : W.ownsRow w.heap.size 3 1 v l.length (rowsOf l)) (hb : Below w.heap.size w W)
    (hown' : w1.ownsRow w.heap.size 3 1 v' l'.length (rowsOf l')) (hgrow : (W.alloc tmp).grownBy w1 v.ownBlock) (hblk : v'.ownBlock = v.ownBlock ∨ v'.ownBlock = some (W.alloc tmp).heap.size) :
    Boxed w1 w.heap.size 60 v ∧ LiveI w l' (w1.setCell ⟨w.heap.size, 0, none⟩ v') ∧ KE (OutE w.heap.size) W (w1.setCell ⟨w.heap.size, 0, none⟩ v') ∧ KeepsOthers W (w1.setCell ⟨w.heap.size, 0, none⟩ v') ∧ ∀ B, B < W.heap.size → BoxOff W w.heap.size B → BoxOff (w1.setCell ⟨w.heap.size, 0, none⟩ v') w.heap.size B := by
  obtain ⟨a1, a2, a3, a4, a5⟩ := hv.appended (by decide) hrow hb.size (Nat.le_refl _) hown' hgrow
  refine ⟨a1, ⟨v', a2, a3, hb.trans a5⟩, ⟨⟨a4.size, fun k o hk ho hn => ?_⟩, fun k hk => ?_⟩, a4, fun B hB ho => ⟨ho.ne, v', a2.cell, fun e => ?_⟩⟩
  · have hkw : k < W.heap.size := (Array.getElem?_eq_some_iff.1 hk).1
    have h1 : k ≠ w.heap.size := fun e => hn (.inl e)
    have h2 : some k ≠ v.ownBlock := fun e => by
      refine hn (.inr ?_)
      rcases hrow.2 with ⟨rfl, _⟩ | ⟨g, cap, cur, rfl, _, _, _⟩
      · simp [Value.ownBlock] at e
      · have : k = g := by simpa [Value.ownBlock] using e
        subst this
        exact ⟨_, _, hv.cell⟩
    rw [Below.heap_setCell _ _ _ k h1]
    exact (hgrow.block k (by simp; omega) h2).trans ((Below.heap_alloc W tmp k hkw).trans hk)
  · rcases hk with rfl | ⟨m, c, hc⟩
    · exact .inl (.inl rfl)
    · rw [a2.cell] at hc
      simp only [Option.some.injEq] at hc
      subst hc
      have hob : (Value.slice (some ⟨k, 0, none⟩) m c).ownBlock = some k := by simp [Value.ownBlock]
      rw [hob] at hblk
      rcases hblk with h1 | h1
      · rcases hrow.2 with ⟨rfl, _⟩ | ⟨g, cap, cur, rfl, _, _, _⟩
        · simp [Value.ownBlock] at h1
        · have : k = g := by simpa [Value.ownBlock] using h1
          subst this
          exact .inl (.inr ⟨_, _, hv.cell⟩)
      · have : k = (W.alloc tmp).heap.size := by simpa using h1
        exact .inr (by rw [this]; simp)
  · obtain ⟨u, h2, h3⟩ := ho.off
    rw [hv.cell] at h2
    simp only [Option.some.injEq] at h2
    subst h2
    rcases hblk with h1 | h1
    · rw [h1] at e; exact h3 e
    · rw [h1] at e
      have : W.heap.size + 1 = B := by simpa using e
      omega
theorem BoxOff.not {W : World} {B3 B : Nat} (h : BoxOff W B3 B) : ¬ OutE B3 W B := by
  rintro (h1 | ⟨m, c, h1⟩)
  · exact h.ne h1
  · obtain ⟨u, h2, h3⟩ := h.off
    rw [h1] at h2
    simp only [Option.some.injEq] at h2
    subst h2
    exact h3 (by simp [Value.ownBlock])
theorem BoxOff.kept {W W' : World} {B3 B : Nat} {row : Option Nat} (h : BoxOff W B3 B) (hg : W.grownBy W' row) (hr : ∀ r, row = some r → ∃ o : Obj, W.heap[r]? = some o ∧ o.isCells = false) : BoxOff W' B3 B := by
  obtain ⟨u, h2, h3⟩ := h.off
  exact ⟨h.ne, u, cell_kept h2 hg hr, h3⟩
theorem BoxOff.below {W W' : World} {B3 B : Nat} (h : BoxOff W B3 B) (hb : Below W.heap.size W W') : BoxOff W' B3 B :=
  h.kept (row := none) ⟨hb.os, hb.tape, hb.output, hb.size, fun k hk _ => hb.block k hk⟩ (fun r e => by cases e)
theorem HdBox.below {W W' : World} {B : Nat} {h : Hd} (hx : HdBox W B h) (hb : Below W.heap.size W W') : HdBox W' B h :=
  hx.kept (row := none) ⟨hb.os, hb.tape, hb.output, hb.size, fun k hk _ => hb.block k hk⟩ (fun r e => by cases e)
theorem HdBox.ke {W W' : World} {B B3 : Nat} {h : Hd} (hx : HdBox W B h) (hk : KE (OutE B3) W W') (ho : BoxOff W B3 B) : HdBox W' B h :=
  ⟨hk.kb.cell hx.k ho.not, hk.kb.cell hx.n ho.not, hk.kb.cell hx.w ho.not⟩
theorem live_off {w W : World} {l : List (Nat × Nat)} (h : LiveI w l W) {o : Obj} : BoxOff (W.alloc o) w.heap.size W.heap.size := by
  obtain ⟨v, h1, h2, h3⟩ := h
  refine ⟨by have := h1.lt; omega, v, (h1.alloc o).cell, fun e => ?_⟩
  rcases h2.2 with ⟨rfl, _⟩ | ⟨g, cap, cur, rfl, _, hg, _⟩
  · simp [Value.ownBlock] at e
  · have : g = W.heap.size := by simpa [Value.ownBlock] using e
    have := (Array.getElem?_eq_some_iff.1 hg).1
    omega
def slotBlocks (p c m k : Nat) : List (Nat × Nat) := ((List.range k).filter fun j => m.testBit j).map fun j => (64 * p + 2 + j * sz c, sz c)
theorem slotBlocks_succ (p c m k : Nat) : slotBlocks p c m (k + 1) = if m.testBit k = true then slotBlocks p c m k ++ [(64 * p + 2 + k * sz c, sz c)] else slotBlocks p c m k := by
  unfold slotBlocks
  rw [List.range_succ, List.filter_append, List.map_append]
  by_cases h : m.testBit k = true
  · rw [if_pos h]; simp [h]
  · rw [if_neg h]; simp [h]
theorem slotBlocks_len (p c m k : Nat) : (slotBlocks p c m k).length ≤ k := by
  unfold slotBlocks
  rw [List.length_map]
  exact Nat.le_trans (List.length_filter_le _ _) (by simp)
theorem slotBlocks_all (p c m : Nat) : slotBlocks p c m (slotsN c) = blocksOf (p, .small c m) := rfl
theorem blocksOf_len (x : Nat × Hd) : (blocksOf x).length ≤ 31 := by
  obtain ⟨p, h⟩ := x
  cases h with
  | small c m => exact Nat.le_trans (slotBlocks_len p c m (slotsN c)) (slots_small c)
  | large w => simp [blocksOf]
theorem blocks_len (L : HL) : (blocks L).length ≤ 31 * L.length := by
  induction L with
  | nil => simp [blocks]
  | cons x t ih =>
    have h := blocksOf_len x
    simp only [blocks, List.flatMap_cons, List.length_append, List.length_cons] at *
    omega
theorem heads_len {L : HL} : L.length ≤ (runs L).length := by
  induction L with
  | nil => simp
  | cons x t ih =>
    have := x.2.len_pos
    simp only [runs, List.flatMap_cons, List.length_append, List.length_range', List.length_cons] at *
    omega
theorem rowsOf_snoc (l : List (Nat × Nat)) (b : Nat × Nat) : rowsOf l ++ [.int .i64 (b.1 : Nat)] = rowsOf (l ++ [b]) := by simp [rowsOf]
theorem rows_large (l : List (Nat × Nat)) (p ww : Nat) : rowsOf l ++ [.int .i64 ((p : Int) * 64 + 2)] = rowsOf (l ++ [(64 * p + 2, ww)]) := by
  rw [← rowsOf_snoc]
  have : (p : Int) * 64 + 2 = ((64 * p + 2 : Nat) : Int) := by push_cast; omega
  rw [this]
theorem rows_small (l : List (Nat × Nat)) (A s : Nat) : rowsOf l ++ [.int .i64 (A : Int)] = rowsOf (l ++ [(A, s)]) := rowsOf_snoc l (A, s)
set_option maxHeartbeats 4000000 in
set_option maxRecDepth 100000 in
theorem live_is {w : World} {ha a q : Nat} {F : Nat → Prop} {L : HL} {mem : Nat → Nat} (h : HeapIs w ha a F L q mem) :
    Calls Tryz.prog 63 #[.pointer (some ⟨ha, 0, none⟩)] w fun e w' => ∃ v, e = .returned v ∧ w'.ownsRow w.heap.size 3 1 v (blocks L).length (rowsOf (blocks L)) ∧ Below w.heap.size w w' := by
  obtain ⟨i0, hi, hz0, hz1, hz2⟩ := info_parts Tryz.info_int
  obtain ⟨⟨mb, D, k1, rfl⟩, k3, k4⟩ := h
  refine (callsIn_wide (n := 9)).1 ?_
  have hN := Lib.hid ((callsIn_wide (n := 8)).2 (heapNone_at k1))
  have hHd := Lib.hid (fun w => (callsIn_wide (n := 8)).2 (heads_calls ha w))
  have HH := Lib.hid k1
  have Hl := Lib.hid k3
  have Hh := Lib.hid k4
  have hLlen : L.length ≤ 4096 := by have h1 := k1.sl.room; have h2 := k1.sl.quota; rw [k1.sl.count] at h1; have := heads_len (L := L); omega
  clear k1 k3 k4
  refine callsIn_of_wp_marks Tryz.func63 rfl trivial ?_ rfl
  simp only [Tryz.ntmps63, List.size_toArray, List.length_cons, List.length_nil, Nat.reduceAdd, Nat.reduceSub, Array.replicate_succ, Array.replicate_zero, List.push_toArray, List.append_toArray, List.nil_append, List.cons_append]
  gi_wp2_with fail
  refine hN.out.mono ?_
  rintro e w' ⟨rfl, rfl⟩
  gi_wp2_with fail
  refine (hHd.out _).mono ?_
  rintro e w2 ⟨rfl, hW2⟩
  have hsz1 : (w.alloc (Obj.cells #[Value.slice none 0 0] 60)).heap.size = w.heap.size + 1 := by simp
  rw [hsz1]
  have hbx : Boxed w2 w.heap.size 60 (.slice none 0 0) := by rw [hW2]; exact (Boxed.new w _ _).alloc _
  have hx2 : w2.cell? ⟨w.heap.size + 1, 0, none⟩ = some (.pointer (some ⟨ha, 0, none⟩)) := by rw [hW2]; go_simp
  have hb2w : Below w.heap.size w w2 := by rw [hW2]; exact ((Below.refl _ w).alloc (Nat.le_refl _) _).alloc (by simp) _
  have hz2' : w.heap.size + 2 ≤ w2.heap.size := by rw [hW2]; simp
  clear hW2 hN hsz1
  gi_wp2_with fail
  have HH2 := Lib.hid (HH.out.below hb2w)
  have hofn : ∀ k, OutE w.heap.size w2 k → k = w.heap.size := fun k hk => by
    rcases hk with h | ⟨m, c, h⟩
    · exact h
    · rw [hbx.cell] at h; cases h
  have hE0 : EOk (OutE w.heap.size) w2.heap.size a mb ha (w.heap.size + 1) D none w2 := ⟨Nat.le_refl _, fun k hk => by
    have hk2 := hofn k hk
    subst hk2
    refine ⟨fun hf => ?_, ?_, ?_, by omega, fun r hr => by cases hr⟩
    · exact Nat.lt_irrefl _ (HH.out.sl.lt hf)
    · have := cell_lt HH.out.hs; simp only at this; omega
    · have h2 := HH.out.tabF a (.inl rfl); have h3 := HH.out.sl.lt (.inl rfl); omega⟩
  refine wpIn_rangeFunc_ownH (α := {z : Nat × Hd // z ∈ L}) rfl (by omega) (gf := 118) (lb := #[.pointer (some ⟨w.heap.size + 1, 0, none⟩)]) rfl trivial (enters_of Tryz.func118 (by kernel_rfl) rfl)
    (heads_stopsE HH2.out Hl.out Hh.out hx2 (OutE w.heap.size) (fun X Y hX hb k hk => outE_below (by omega) hb k hk) hE0 (fun k hk => by have := hofn k hk; omega))
    (fun h k => h.trans k) (fun W l o o' hl' hl h1 h2 => ⟨KB.putObj o' hl h1 h2, fun k hk => .inl (outE_put o' (by omega) k hk)⟩) (Below.refl _ _) (fun _ => rfl)
    (fun pre W => LiveI w (blocks (pre.map (fun (z : {z : Nat × Hd // z ∈ L}) => z.1))) W)
    (fun cd pre W => False)
    (liveI_own w (fun pre : List {z : Nat × Hd // z ∈ L} => blocks (pre.map (fun (z : {z : Nat × Hd // z ∈ L}) => z.1))) _ (by omega))
    (fun _ _ _ _ _ hs _ _ => hs)
    ⟨_, hbx, World.ownsRow_nil _ _ _ _, hb2w⟩
    (fun x a' W => ∃ B, HdBox W B x.1.2 ∧ BoxOff W w.heap.size B ∧ a' = { tmps := #[Value.pointer (some { block := ha, off := 0 }), undef, Value.slice none 0 0, Value.pointer (some { block := w.heap.size, off := 0 }), Value.int IntKind.i64 (x.1.1 : Nat), Value.pointer (some { block := B, off := 0 }), undef, undef, undef, Value.pointer (some { block := ha, off := 0 }), Value.bool false, Value.pointer (some { block := ha, off := 0 }), Value.func (Fn.func 118) #[] #[Value.pointer (some { block := w.heap.size + 1, off := 0 })], Value.int IntKind.i64 (x.1.1 : Nat), hdV x.1.2, undef, undef, undef, undef, undef, undef, undef, undef, undef, undef, undef, undef, undef, undef, undef, undef, undef, undef, undef, undef, undef, undef, undef, undef, undef, undef, undef, undef, undef, undef, undef, undef, undef], defers := [] })
    (fun x a' s A B row hs hg hr => by
      obtain ⟨B', h2, h4, h3⟩ := hs
      exact ⟨B', h2.kept hg (fun r e => (hr r e).2), h4.kept hg (fun r e => (hr r e).2), h3⟩)
    ?assign ?body ?done ?stop
  case assign =>
    rintro l pre ⟨⟨p, hd⟩, hxm⟩ W K hi hK
    dsimp only at hK ⊢
    have hb : Below W.heap.size W (W.alloc (Obj.cells #[Value.int IntKind.i64 (hdK hd : Nat), Value.int IntKind.i64 (hdN hd : Nat), Value.int IntKind.u64 (hdW hd : Nat)] 163)) := (Below.refl _ W).alloc (Nat.le_refl _) _
    have hwW : w.heap.size < W.heap.size := by obtain ⟨v, h1, _⟩ := hi; exact h1.lt
    have hK2 := hK _ (W.alloc (Obj.cells #[Value.int IntKind.i64 (hdK hd : Nat), Value.int IntKind.i64 (hdN hd : Nat), Value.int IntKind.u64 (hdW hd : Nat)] 163)) ((keepsOthers_below hb).from _) (KE.below hb (fun k hk => outE_below hwW hb k hk)) (hi.below hb) ⟨W.heap.size, hdBox_new _ _ _, live_off hi, rfl⟩
    have hK2H := Lib.hid hK2
    clear hK hK2 hb hi
    rw [hdV_eq] at hK2H ⊢
    gi_wp2
    exact hK2H.out
  case body =>
    rintro l pre ⟨⟨p, hd⟩, hxm⟩ a' W hl ⟨r, hr⟩ hi ⟨B, hbx, hoff, rfl⟩ hlen
    dsimp only at hbx ⊢
    have hok := Hl.out.ok _ hxm
    have hxp : p ∈ runs L := mem_runs.2 ⟨(p, hd), hxm, Nat.le_refl _, by have := hd.len_pos; simp only; omega⟩
    have hplow := HH.out.sl.low _ hxp
    have hk := hbx.k
    have hn := hbx.n
    have hw := hbx.w
    have hnext : Hid (blocks ((pre ++ [(⟨(p, hd), hxm⟩ : {z : Nat × Hd // z ∈ L})]).map (fun (z : {z : Nat × Hd // z ∈ L}) => z.1)) = blocks (pre.map (fun (z : {z : Nat × Hd // z ∈ L}) => z.1)) ++ blocksOf (p, hd)) := Lib.hid (by
      rw [List.map_append, blocks, blocks, List.flatMap_append]; simp)
    have hpl : (blocks (pre.map (fun (z : {z : Nat × Hd // z ∈ L}) => z.1))).length ≤ 31 * 4096 := by
      have := blocks_len (pre.map (fun (z : {z : Nat × Hd // z ∈ L}) => z.1))
      rw [List.length_map] at this
      omega
    generalize blocks (pre.map (fun (z : {z : Nat × Hd // z ∈ L}) => z.1)) = told at *
    clear hxp
    cases hd with
    | large ww =>
      simp only [hdK, hdN, hdW] at hk hn hw ⊢
      have d0 : ((2 : Int) == 2) = true := by decide
      obtain ⟨v, hv, hrow, hb⟩ := hi
      have hc := hv.cell
      have hbH := Lib.hid hb
      have hrowH := Lib.hid hrow
      have hvH := Lib.hid hv
      clear hok hb hrow hv
      have hz : w.heap.size ≤ W.heap.size := hbH.out.size
      gi_wp2_with (gi_at_builtin; refine wpListIn_append_own_at _ rfl _ _ 60 rfl w.heap.size 3 i0 (.int .i64 0) 1 8 Tryz.under_ints hi hz0 hz1 hz2 rfl (by decide) _ _ _ rfl (hrowH.out.alloc _) ⟨W.heap.size, 0, none⟩ 1 1 [.int .i64 ((p : Int) * 64 + 2)] rfl rfl (cell_one_new _ _ _) (by simp [Value.oneCell']) (by unfold maxLen; omega) (by omega) (by simp; omega) ?_; intro v' w1 hown' hgrow _ hblk; rw [rows_large told p ww] at hown'; obtain ⟨g', cap', rfl⟩ := ownsRow_succ hown'; obtain ⟨b1, b2, b3, b4, b5⟩ := live_append (l' := told ++ [(64 * p + 2, ww)]) hvH.out hrowH.out hbH.out (by simpa using hown') hgrow hblk; have hc1 := b1.cell; have hf1 := b1.frozen)
      exact ⟨b4.from _, b3, by show LiveI w _ _; rw [hnext.out]; exact b2⟩
    | small cc m =>
      obtain ⟨hc8, hm0, hmS⟩ := hok
      have hm64 : Hid (m < 18446744073709551616) := Lib.hid (Nat.lt_trans hmS (pow_lt64 (by have := slots_small cc; omega)))
      have hs31 := slots_small cc
      have hsl : slotsR ((cc : Nat) : Int) = .tuple #[.int .i64 (slotsN cc : Nat), .int .i64 0] := if_pos ⟨by omega, by omega⟩
      have hS := Lib.hid (fun w => CallsIn.inRound l ((callsIn_wide (n := 6)).2 (slots_any (cc : Nat) w)))
      simp only [hdK, hdN, hdW] at hk hn hw ⊢
      have d0 : ((1 : Int) == 2) = false := by decide
      have hBW : B < W.heap.size := cell_lt hk
      have hiH := Lib.hid hi
      clear hm0 hmS hi
      gi_wp2_with fail
      refine (hS.out _).mono ?_
      rintro e W' ⟨rfl, hbS⟩
      rw [hsl]
      have hbx4 : HdBox W' B (.small cc m) := ⟨(hbS.cell (p := ⟨B, 0, none⟩) hBW).trans hk, (hbS.cell (p := ⟨B, 1, none⟩) hBW).trans hn, (hbS.cell (p := ⟨B, 2, none⟩) hBW).trans hw⟩
      have hwW : w.heap.size < W.heap.size := by obtain ⟨v, h1, _⟩ := hiH.out; exact h1.lt
      have hi4 := Lib.hid (hiH.out.below hbS)
      have hk4 := Lib.hid ((keepsOthers_below hbS).from w2.heap.size)
      have hke4 := Lib.hid (KE.below hbS (fun k hk => outE_below hwW hbS k hk))
      have hz4 := hbS.size
      have hoff4 := Lib.hid (hoff.below hbS)
      clear hbS hk hn hw d0
      gi_wp2_with fail
      generalize hsn : slotsN cc = sn at *
      have hsnH := Lib.hid hsn
      clear hsn
      gi_loopw [31] (fun kv wr => ∃ k : Nat, k ≤ sn ∧ kv = .int .i64 k ∧ Hid (HdBox wr B (.small cc m)) ∧ Hid (BoxOff wr w.heap.size B) ∧ Hid (LiveI w (told ++ slotBlocks p cc m k) wr) ∧ Hid (KE (OutE w.heap.size) W' wr) ∧ Hid (KeepsOthers W' wr)) (fun kv _ => sn - (intOf kv).toNat)
      case atStart => exact ⟨0, by omega, rfl, Lib.hid hbx4, hoff4, by simpa [slotBlocks] using hi4, Lib.hid (KE.below (Below.refl _ _) (fun _ h => h)), Lib.hid (KeepsOthers.refl _)⟩
      case round =>
        obtain ⟨k, hkk, rfl, hbr, hor, hir, hker, hkr⟩ := hrel
        have hbk := hbr.out.k
        have hbn := hbr.out.n
        have hbm := hbr.out.w
        simp only [hdK, hdN, hdW] at hbk hbn hbm
        have hHas := Lib.hid (fun w => CallsIn.inRound l ((callsIn_wide (n := 6)).2 (has_at m k hm64.out (by omega) w)))
        by_cases hlt : k < sn
        · have hss := Lib.hid (slotBlocks_succ p cc m k)
          by_cases hmk : m.testBit k = true
          · have hPl := Lib.hid (fun w => CallsIn.inRound l ((callsIn_wide (n := 6)).2 (hplace_at p cc k hplow hc8 (by rw [hsnH.out]; omega) w)))
            have hmkH := Lib.hid hmk
            have d5 := hmk
            have hmo : Tryz.prog.follows .mixedOrders = true := by kernel_rfl
            obtain ⟨v, hv, hrow, hb⟩ := hir.out
            have hc := hv.cell
            have hlen5 : (told ++ slotBlocks p cc m k).length ≤ 31 * 4096 + 31 := by
              rw [List.length_append]; have := slotBlocks_len p cc m k; have := hsnH.out; omega
            have hvH := Lib.hid hv
            have hrowH := Lib.hid hrow
            have hbH := Lib.hid hb
            clear hv hrow hb hmk
            have hz5 : w.heap.size ≤ wr.heap.size := hbH.out.size
            generalize hA : 64 * p + 2 + k * sz cc = A at *
            have hAH := Lib.hid hA
            clear hA
            have hnx := Lib.hid (show told ++ slotBlocks p cc m (k + 1) = (told ++ slotBlocks p cc m k) ++ [(A, sz cc)] by rw [hss.out, if_pos hmkH.out, List.append_assoc])
            generalize hls : told ++ slotBlocks p cc m k = ls at *
            have hlsH := Lib.hid hls
            clear hls
            gi_wp2_with (gi_at_call 92; refine (hHas.out _).mono ?_; rintro e W5 ⟨rfl, rfl⟩)
            have hcX : ∀ X : Bel wr, X.W.cell? ⟨w.heap.size, 0, none⟩ = some v := fun X => X.cell hc
            have hbnX : ∀ X : Bel wr, X.W.cell? ⟨B, 1, none⟩ = some (.int .i64 (cc : Nat)) := fun X => X.cell hbn
            refine wpIn_region_float (fun w' => ∃ X : Bel wr, w' = X.W) 5 2 7 hmo (by kernel_rfl) (by kernel_rfl) (by kernel_rfl) (by kernel_rfl) (by decide) rfl (by kernel_rfl) ⟨⟨_, below_drawn wr⟩, rfl⟩ (fun _ _ _ _ h => h) ?_
            simp only [List.take_succ_cons, List.take_zero, List.drop_succ_cons, List.drop_zero]
            refine wpPureC_step v rfl (by rintro _ ⟨X, rfl⟩; have := hcX X; go_simp) (fun _ => rfl) ?_
            go_simp
            refine wpPureC_step (.int .i64 (p : Nat)) rfl (by rintro _ ⟨X, rfl⟩; go_simp) (fun _ => rfl) ?_
            go_simp
            refine wpPureC_step (.pointer (some ⟨B, 1, none⟩)) rfl (by rintro _ ⟨X, rfl⟩; go_simp) (fun _ => rfl) ?_
            go_simp
            refine wpPureC_step (.int .i64 (cc : Nat)) rfl (by rintro _ ⟨X, rfl⟩; have := hbnX X; go_simp) (fun _ => rfl) ?_
            go_simp
            refine wpPureC_step (.int .i64 (k : Nat)) rfl (by rintro _ ⟨X, rfl⟩; go_simp) (fun _ => rfl) ?_
            go_simp
            refine wpPureC_nil ?_
            refine wpChainC_step (fun K5 hK5 => ?_)
            gi_wp2_with (gi_at_call 93; refine (hPl.out _).mono ?_; rintro e W5 ⟨rfl, hb5⟩)
            have hb5' : Below wr.heap.size wr W5 := (below_drawn wr).trans hb5
            have hc5 : W5.cell? ⟨w.heap.size, 0, none⟩ = some v := (hb5'.cell (p := ⟨w.heap.size, 0, none⟩) (cell_lt hc)).trans hc
            obtain ⟨v5, hv5, hrow5, hbw5⟩ := hir.out.below hb5'
            obtain rfl : v5 = v := by have h1 := hv5.cell; rw [hc5] at h1; simpa using h1.symm
            have hf5 := hv5.frozen
            have hv5H := Lib.hid hv5
            have hrow5H := Lib.hid hrow5
            have hbw5H := Lib.hid hbw5
            have hbH5 := Lib.hid hb5'
            have hz6 : wr.heap.size ≤ W5.heap.size := hb5'.size
            have hoff5 := hor.out.below hb5'
            have hoff5H := Lib.hid hoff5
            have hc0 := Lib.hid hc
            clear hv5 hrow5 hbw5 hb5 hb5' hc hbn hbk hbm hcX hbnX hoff5
            have hwr : w.heap.size < wr.heap.size := cell_lt hc0.out
            have hBr : B < wr.heap.size := cell_lt hbr.out.k
            refine hK5 _ _ ⟨⟨W5, hbH5.out⟩, rfl⟩ ?_
            clear hK5 K5
            refine wpChainC_step (fun K6 hK6 => ?_)
            gi_wp2
            refine hK6 _ _ ⟨⟨_, hbH5.out.alloc hz6 _⟩, rfl⟩ ?_
            clear hK6 K6
            refine wpChainC_zero ?_
            have hz7 : w.heap.size ≤ W5.heap.size := by omega
            gi_wp2_with (gi_at_builtin; refine wpListIn_append_own_at _ rfl _ _ 60 rfl w.heap.size 3 i0 (.int .i64 0) 1 8 Tryz.under_ints hi hz0 hz1 hz2 rfl (by decide) _ _ _ rfl (hrow5H.out.alloc _) ⟨W5.heap.size, 0, none⟩ 1 1 [.int .i64 (A : Int)] rfl rfl (cell_one_new _ _ _) (by simp [Value.oneCell']) (by unfold maxLen; omega) (by omega) (by simp; omega) ?_; intro v' w1 hown' hgrow _ hblk; rw [rows_small _ A (sz cc)] at hown'; obtain ⟨g', cap', rfl⟩ := ownsRow_succ hown'; obtain ⟨b1, b2, b3, b4, b5⟩ := live_append (l' := ls ++ [(A, sz cc)]) hv5H.out hrow5H.out hbw5H.out (by simpa using hown') hgrow hblk; have hc1 := b1.cell; have hf1 := b1.frozen)
            have hkeH := Lib.hid (KE.below hbH5.out (fun k hk => outE_below hwr hbH5.out k hk))
            go_roundw
            case rel =>
              refine ⟨k + 1, by omega, by go_num, Lib.hid ((hbr.out.below hbH5.out).ke b3 hoff5H.out), Lib.hid (b5 B (by omega) hoff5H.out), ?_, Lib.hid (hker.out.trans (hkeH.out.trans b3)), Lib.hid (hkr.out.trans ((keepsOthers_below hbH5.out).trans b4))⟩
              rw [hnx.out]; exact Lib.hid b2
            case measure => simp [intOf]; omega
          · have hmf : m.testBit k = false := by simpa using hmk
            have hmkH := Lib.hid hmk
            clear hmk
            gi_wp2_with (gi_at_call 92; refine (hHas.out _).mono ?_; rintro e W5 ⟨rfl, rfl⟩)
            go_roundw
            case rel => exact ⟨k + 1, by omega, by go_num, hbr, hor, by rw [hss.out, if_neg hmkH.out]; exact hir, hker, hkr⟩
            case measure => simp [intOf]; omega
        · obtain rfl : k = sn := by omega
          gi_wp2
          exact ⟨hk4.out.trans (hkr.out.from _), hke4.out.trans hker.out, by show LiveI w _ _; rw [hnext.out, ← slotBlocks_all, hsnH.out]; exact hir.out⟩
  case done =>
    rintro D' xs W hD hxs hi hK
    rw [hxs] at hi
    obtain ⟨v, hv, hrow, hb⟩ := hi
    have hc := hv.cell
    have hbH := Lib.hid hb
    have hrowH := Lib.hid hrow
    clear hb hrow hv hxs
    gi_wp2
    refine ⟨by simp, .inl ⟨_, _, rfl, run_takeDeferred hK, ?_⟩⟩
    refine ⟨v, by simp [results, Tryz.f63], v, rfl, ownsRow_kb (Cs := fun _ => False) hrowH.out (KB.putObj _ hK rfl rfl) (fun _ h => h.elim), ?_⟩
    exact hbH.out.trans (belowK_b (w := w) (Nat.le_refl _) _ D' _ _ (by omega) hK rfl rfl)
  case stop =>
    rintro D' cd pre W hD hSp hf
    exact hf.elim
end Go.Proofs.YtjpmlneihbckpaaGreatDoor
/- The walk of store.All: every handle. -/
set_option linter.unusedVariables false
set_option linter.unusedSimpArgs false
namespace Go.Proofs.YtjpmlneihbckpaaGreatDoor
open Go.RowKit Go.Shelf
theorem Tryz.under_handles : Tryz.prog.underlying 49 = some (.slice 32) := by kernel_rfl
theorem Tryz.info_handle : (Tryz.prog.info? 32).map (fun i => (i.zero, i.size, i.bytes)) = some (some (.int .u64 0), 1, 8) := by kernel_rfl
theorem below_append {N : Nat} {w1 wr w' : World} {tmp : Obj} {v : Value} (hb : Below N w1 wr) (hN : N ≤ wr.heap.size) (hg : (wr.alloc tmp).grownBy w' v.ownBlock) (hv : ∀ r, v.ownBlock = some r → N ≤ r) : Below N w1 w' :=
  ⟨hg.os.trans hb.os, hg.tape.trans hb.tape, hg.output.trans hb.output, Nat.le_trans hb.size (Nat.le_trans (by simp) hg.size), fun k hk => by
    have h1 : k < wr.heap.size := by omega
    refine (hg.block k (by simp; omega) (fun e => ?_)).trans ((Below.heap_alloc wr tmp k h1).trans (hb.block k hk))
    have := hv k e.symm
    omega⟩
theorem ownBlock_low {W : World} {N : Nat} {e : TypeId} {v : Value} {n : Nat} {xs : List Value} (h : W.ownsRow N e 1 v n xs) (r : Nat) (hr : v.ownBlock = some r) : N ≤ r := by
  rcases h.2 with ⟨rfl, _⟩ | ⟨g, cap, cur, rfl, hb, _⟩
  · simp [Value.ownBlock] at hr
  · have : g = r := by simpa [Value.ownBlock] using hr
    omega
section
variable {w w' : World} {s : Nat} {F : Nat → Prop} {R : Nat → Option (List Nat)} {H : List Nat} {P q most last G : Nat}
set_option maxRecDepth 100000 in
set_option maxHeartbeats 2000000 in
theorem sall_at (h : StoreIs w s F R H P q most last G) :
    Calls Tryz.prog 29 #[.pointer (some ⟨s, 0, none⟩)] w fun e w' => ∃ (v : Value) (Hs : List Nat), e = .returned v ∧ Hs.Perm H ∧ w'.ownsRow w.heap.size 32 1 v Hs.length (Hs.map fun x : Nat => Value.int .u64 (x : Int)) ∧ Below w.heap.size w w' := by
  obtain ⟨a, ha, t, v, L, mem, sl, Fh, h⟩ := h
  obtain ⟨i0, hi, hz0, hz1, hz2⟩ := info_parts Tryz.info_handle
  have hN := Lib.hid (snone_at h)
  have hch := h.ch
  have hS := Lib.hid h
  have hLv := Lib.hid (live_is h.heap)
  have hperm := Lib.hid h.perm
  have hlenL : Hid ((blocks L).length ≤ 31 * 4096) := Lib.hid (by
    obtain ⟨⟨mb, D, k1, rfl⟩, k3, k4⟩ := h.heap
    have h1 := k1.sl.room; have h2 := k1.sl.quota; rw [k1.sl.count] at h1
    have h3 := heads_len (L := L); have h4 := blocks_len L; omega)
  clear h
  go_enter Tryz.func29, Tryz.ntmps29
  go_wp2_with fail
  refine hN.out.mono ?_
  rintro e w' ⟨rfl, rfl⟩
  go_wp2_with fail
  refine hLv.out.mono ?_
  rintro e w1 ⟨lv, rfl, hrow, hb⟩
  obtain ⟨A, c, rfl⟩ := ownsRow_form hrow
  have hrowH := Lib.hid hrow
  have hbH := Lib.hid hb
  have hS1 := Lib.hid (hS.out.below hb)
  have hca := hS1.out.ca
  have hn := hlenL.out
  clear hrow hb
  generalize hbl : blocks L = bl at *
  have hblH := Lib.hid hbl
  clear hbl
  go_wp2
  go_loopw [16, 3] (fun kv vv wr => ∃ k : Nat, k ≤ bl.length ∧ kv = .int .i64 k ∧ Hid (wr.ownsRow w1.heap.size 32 1 vv k ((bl.take k).map fun b => Value.int .u64 (mem b.1 : Int))) ∧ Hid (Below w1.heap.size w1 wr)) (fun kv _ _ => bl.length - (intOf kv).toNat)
  case atStart => exact ⟨0, by omega, rfl, Lib.hid (by simpa using World.ownsRow_nil _ _ _ _), Lib.hid (Below.refl _ _)⟩
  case round =>
    obtain ⟨k, hkk, rfl, hrowk, hbk⟩ := hrel
    by_cases hlt : k < bl.length
    · obtain ⟨g, c', hsl, hg1, hg2, hcell⟩ := ownsRow_cell hrowH.out (i := k) (u := .int .i64 ((bl[k].1 : Nat) : Int)) (by simp [rowsOf, hlt])
      obtain ⟨rfl, rfl⟩ : A = some ⟨g, 0, none⟩ ∧ c = c' := by simpa using hsl
      have hcr : wr.cell? ⟨g, k, none⟩ = some (.int .i64 ((bl[k].1 : Nat) : Int)) := (hbk.out.cell (p := ⟨g, k, none⟩) hg2).trans hcell
      have hSr := Lib.hid (hS1.out.below hbk.out)
      have hcar := hSr.out.ca
      have hmem : bl[k] ∈ blocks L := by rw [hblH.out]; exact List.getElem_mem hlt
      have hRd := Lib.hid (read_is hSr.out.heap hmem bl[k].1 (Nat.le_refl _) (by have := block_within_two hSr.out.heap.lay hmem; omega))
      have hsz := hbk.out.size
      have hnext : Hid (((bl.take k).map fun b => Value.int .u64 (mem b.1 : Int)) ++ [Value.int .u64 (mem bl[k].1 : Int)] = (bl.take (k + 1)).map fun b => Value.int .u64 (mem b.1 : Int)) := Lib.hid (by rw [List.take_succ_eq_append_getElem hlt, List.map_append]; rfl)
      clear hcell hsl hmem
      generalize hbk1 : bl[k].1 = x at *
      clear hbk1
      go_wp2_with fail
      refine hRd.out.mono ?_
      rintro e w2 ⟨rfl, rfl⟩
      have hlen : k ≤ 31 * 4096 := by omega
      go_wp2_with (at_builtin; refine wpList_append_own_at _ rfl _ _ 49 rfl w1.heap.size 32 i0 (.int .u64 0) 1 8 Tryz.under_handles hi hz0 hz1 hz2 rfl (by decide) _ _ _ rfl (hrowk.out.alloc _) ⟨wr.heap.size, 0, none⟩ 1 1 [.int .u64 (mem x : Int)] rfl rfl (cell_one_new _ _ _) (by simp [Value.oneCell']) (by unfold maxLen; omega) (by omega) (by simp; omega) ?_; intro v' w3 hown' hgrow _ hblk; rw [hnext.out] at hown'; have hb3 := below_append hbk.out hsz hgrow (fun r hr => ownBlock_low hrowk.out r hr))
      go_roundw
      case rel => exact ⟨k + 1, by omega, by go_num, Lib.hid hown', Lib.hid hb3⟩
      case measure => simp [intOf]; omega
    · obtain rfl : k = bl.length := by omega
      go_wp2
      go_ret
      rw [List.take_length] at hrowk
      refine ⟨_, bl.map fun b => mem b.1, rfl, hperm.out.symm, ?_, hbH.out.trans (hbk.out.mono hbH.out.size)⟩
      rw [List.length_map, List.map_map]
      exact hrowk.out.mono hbH.out.size
end
end Go.Proofs.YtjpmlneihbckpaaGreatDoor
/- Two trees in one store. -/
set_option linter.unusedVariables false
set_option linter.unusedSimpArgs false
namespace Go.Proofs.YtjpmlneihbckpaaGreatDoor
open Go.RowKit Go.Shelf
/-- six cells of one block are turned -/
def setSix (W : World) (b : Nat) (v0 v1 v2 v3 v4 v5 : Value) : World := (((((W.setCell ⟨b, 0, none⟩ v0).setCell ⟨b, 1, none⟩ v1).setCell ⟨b, 2, none⟩ v2).setCell ⟨b, 3, none⟩ v3).setCell ⟨b, 4, none⟩ v4).setCell ⟨b, 5, none⟩ v5
theorem kb_one (W : World) (b j : Nat) (v : Value) : KB (fun k => k = b) W (W.setCell ⟨b, j, none⟩ v) := KB.setCell (Cs := fun k => k = b) (p := ⟨b, j, none⟩) rfl v
theorem setSix_kb (W : World) (b : Nat) (v0 v1 v2 v3 v4 v5 : Value) : KB (fun k => k = b) W (setSix W b v0 v1 v2 v3 v4 v5) :=
  (((((kb_one W b 0 v0).trans (kb_one _ b 1 v1)).trans (kb_one _ b 2 v2)).trans (kb_one _ b 3 v3)).trans (kb_one _ b 4 v4)).trans (kb_one _ b 5 v5)
theorem setSix_below {w W : World} {m b : Nat} (h : Below m w W) (hb : m ≤ b) (v0 v1 v2 v3 v4 v5 : Value) : Below m w (setSix W b v0 v1 v2 v3 v4 v5) :=
  (((((h.setCell (p := ⟨b, 0, none⟩) hb v0).setCell (p := ⟨b, 1, none⟩) hb v1).setCell (p := ⟨b, 2, none⟩) hb v2).setCell (p := ⟨b, 3, none⟩) hb v3).setCell (p := ⟨b, 4, none⟩) hb v4).setCell (p := ⟨b, 5, none⟩) hb v5
theorem setSix_eq (W : World) (b : Nat) (v0 v1 v2 v3 v4 v5 : Value) : (((((W.setCell ⟨b, 0, none⟩ v0).setCell ⟨b, 1, none⟩ v1).setCell ⟨b, 2, none⟩ v2).setCell ⟨b, 3, none⟩ v3).setCell ⟨b, 4, none⟩ v4).setCell ⟨b, 5, none⟩ v5 = setSix W b v0 v1 v2 v3 v4 v5 := rfl
section
variable {w w' : World} {s N : Nat} {F : Nat → Prop} {R R' : Nat → Option (List Nat)} {H : List Nat} {P q most last G n : Nat}
theorem treeNil (rd : Rd N w s R n) (sh : Short R) (z : R 0 = none) : TreeR N w s R n .nil [] :=
  ⟨rd, sh, z, trivial, rfl, List.Pairwise.nil, List.nodup_nil, Nat.zero_le _⟩
theorem treeIn (h : StoreIs w s F R H P q most last G) (sh : Short R) (z : R 0 = none) {t : BT} (ht : t.At R) {l : List Pr} (hp : t.prs = l) (hr : Rising l) (hn : t.hs.Nodup) : ∃ n, TreeR w.heap.size w s R n t l ∧ WordsR R H P n := by
  obtain ⟨n, hrd, hwd⟩ := h.rd
  exact ⟨n, ⟨hrd, sh, z, ht, hp, hr, hn, BT.size_words ht hn h.dom hwd⟩, hwd⟩
theorem GrowOut.other {t t' : BT} (g : GrowOut R R' t) (h : t'.At R) : t'.At R' := h.congr fun x hx => g.keep (BT.hs_in t' h x hx)
theorem GrowOut.apart {t t' : BT} (g : GrowOut R R' t) (h : t'.At R) : ∀ x ∈ t'.hs, x ∉ t.hs := fun x hx hm => BT.hs_in t' h x hx (g.fresh x hm)
theorem dropR_at {t t' : BT} (h : t'.At R) (ha : ∀ x ∈ t'.hs, x ∉ t.hs) : t'.At (dropR R t.hs) := h.congr fun x hx => dropR_out (ha x hx)
theorem dropR_zero {l : List Nat} (h : R 0 = none) : dropR R l 0 = none := by
  unfold dropR
  split
  · rfl
  · exact h
/-- a step that turns cells of other blocks leaves the store as it is -/
theorem StoreIs.kb {Cs : Nat → Prop} (h : StoreIs w s F R H P q most last G) (hk : KB Cs w w') (hF : ∀ k, Cs k → ¬ F k) (hs : ¬ Cs s) (hp : ∀ k, Cs k → ∀ p, w.cell? ⟨k, 0, none⟩ ≠ some (.pointer p)) (ht : ¬ Cs 1) : StoreIs w' s F R H P q most last G := by
  obtain ⟨a, ha, t, v, L, mem, sl, Fh, h⟩ := h
  have hFe := h.F_eq
  have hha : ¬ Cs ha := fun hc => by
    obtain ⟨⟨mb, D, k1, rfl⟩, _, _⟩ := h.heap
    exact hp ha hc _ k1.hs
  exact ⟨a, ha, t, v, L, mem, sl, Fh, { h with
    ca := hk.cell h.ca hs
    ch := hk.cell h.ch hs
    ct := hk.cell h.ct hs
    heap := h.heap.kb hk (fun k hf hc => hF k hc (by rw [hFe]; exact .inl hf)) hha ht
    tab := h.tab.kb hk (fun b hf hc => hF b hc (by rw [hFe]; exact .inr hf)) }⟩
/-- a root that is dropped is no node -/
theorem check_gone (n x : Nat) (h0 : x ≠ 0) (hx : R x = none) : checkR R n x = 8 := by
  unfold checkR
  have : nodeE R x = 7 := by unfold nodeE; rw [hx]
  rw [if_neg h0, if_pos (by rw [this]; decide)]
theorem BT.root_in {t : BT} (h : t.root ≠ 0) : t.root ∈ t.hs := by
  cases t with
  | nil => exact absurd rfl h
  | node x kh vh m k v l r => simp [BT.root, BT.hs]
end
end Go.Proofs.YtjpmlneihbckpaaGreatDoor
/- loftlaw11.WalkWrong: plain law. -/
set_option linter.unusedVariables false
set_option linter.unusedSimpArgs false
namespace Go.Proofs.YtjpmlneihbckpaaGreatDoor
open Go.RowKit Go.Shelf
theorem checkR_val (R : Nat → Option (List Nat)) (n x : Nat) : checkR R n x = 0 ∨ checkR R n x = 8 := by
  unfold checkR
  split
  · exact .inl rfl
  · split
    · exact .inr rfl
    · split
      · exact .inr rfl
      · split
        · exact .inr rfl
        · split
          · exact .inr rfl
          · exact .inl rfl
theorem chkL_pre {R : Nat → Option (List Nat)} {root : Nat} {L : List Nat} {c : Cst} (h : chkL R root L = some c) (i : Nat) : ∃ c', chkL R root (L.take i) = some c' := by
  cases hc : chkL R root (L.take i) with
  | some c' => exact ⟨c', rfl⟩
  | none =>
    have := chkL_none R root (L.take i) (L.drop i) hc
    rw [List.take_append_drop, h] at this
    cases this
theorem chkL_last {R : Nat → Option (List Nat)} {root : Nat} {L : List Nat} {c : Cst} (h : chkL R root L = some c) {i : Nat} (hi : i < L.length) {c' : Cst} (hc : chkL R root (L.take (i + 1)) = some c') : c'.first = false ∧ c'.last = (pairP R L[i]).1 := by
  rw [List.take_succ_eq_append_getElem hi, chkL_snoc] at hc
  cases h1 : chkL R root (L.take i) with
  | none => rw [h1] at hc; cases hc
  | some c1 =>
    rw [h1, Option.bind_some] at hc
    unfold Cst.step at hc
    split at hc
    · cases hc
    · cases h3 : chk3 c1.S [L[i], (nodeG R L[i]).key, (nodeG R L[i]).val] with
      | none => rw [h3] at hc; cases hc
      | some S =>
        rw [h3] at hc
        simp only [Option.map_some, Option.some.injEq] at hc
        subst hc
        exact ⟨rfl, rfl⟩
theorem chk_told {R : Nat → Option (List Nat)} {root : Nat} {L : List Nat} {c : Cst} (h : chkL R root L = some c) {i : Nat} (hi : i < L.length) :
    pairE R L[i] = 0 ∧ ∀ (h0 : 0 < i), Tx.cmp (pairP R (L[i - 1]'(by omega))).1 (pairP R L[i]).1 < 0 := by
  obtain ⟨c2, hc2⟩ := chkL_pre h (i + 1)
  rw [List.take_succ_eq_append_getElem hi, chkL_snoc] at hc2
  obtain ⟨c1, hc1⟩ := chkL_pre h i
  rw [hc1, Option.bind_some] at hc2
  unfold Cst.step at hc2
  by_cases hb : c1.bad R L[i] = true
  · rw [if_pos hb] at hc2; cases hc2
  · unfold Cst.bad at hb
    simp only [Bool.or_eq_true, Bool.and_eq_true, bne_iff_ne, not_or, decide_eq_true_eq, Bool.not_eq_true'] at hb
    refine ⟨Decidable.not_not.1 hb.1, fun h0 => ?_⟩
    obtain ⟨j, rfl⟩ : ∃ j, i = j + 1 := ⟨i - 1, by omega⟩
    obtain ⟨f1, f2⟩ := chkL_last h (i := j) (by omega) hc1
    have h3 := hb.2.1
    rw [f1, f2] at h3
    simp only [true_and] at h3
    simp only [Nat.add_sub_cancel]
    omega
theorem checkR_of {R : Nat → Option (List Nat)} {n root : Nat} (h0 : root ≠ 0) (h1 : nodeE R root = 0) {c : Cst} (hc : chkL R root (inR R n root) = some c) (hA : c.sides.any (fun x => x != 0 && !c.S.contains x) = false) (hB : ¬ (3 * (nodeG R root).size) % 18446744073709551616 = c.S.length) : checkR R n root = 8 := by
  unfold checkR
  rw [if_neg h0, if_neg (by simp [h1]), hc]
  simp only [hA, Bool.false_eq_true, if_false]
  exact if_pos hB
theorem checkR_side {R : Nat → Option (List Nat)} {n root : Nat} (h0 : root ≠ 0) (h1 : nodeE R root = 0) {c : Cst} (hc : chkL R root (inR R n root) = some c) (hA : c.sides.any (fun x => x != 0 && !c.S.contains x) = true) : checkR R n root = 8 := by
  unfold checkR
  rw [if_neg h0, if_neg (by simp [h1]), hc]
  simp only [hA, if_true]
theorem three_inj {a b M : Nat} (hM : M = 18446744073709551616) (h : (3 * a) % M = 3 * b) (ha : a < M) (hb : b ≤ 40000) : a = b := by
  have h1 := Nat.div_add_mod (3 * a) M
  rw [h] at h1
  have h2 : 3 * a / M < 3 := Nat.div_lt_of_lt_mul (by omega)
  generalize 3 * a / M = q at *
  clear h
  have h3 : q = 0 ∨ q = 1 ∨ q = 2 := by omega
  rcases h3 with rfl | rfl | rfl
  · omega
  · rw [Nat.mul_one, hM] at h1; omega
  · rw [hM] at h1; omega
/-- what a Check that tells OK shows -/
theorem check_ok {R : Nat → Option (List Nat)} {n root : Nat} (h0 : root ≠ 0) (h : checkR R n root = 0) (hs : (nodeG R root).size < 18446744073709551616) (hn : n ≤ 262144) : (∃ c, chkL R root (inR R n root) = some c) ∧ tsizeR R root = ((inR R n root).length : Nat) := by
  have hlen := inR_len R n root
  have hlen2 : (inR R n root).length ≤ 40000 := by omega
  by_cases h1 : nodeE R root = 0
  · cases hc : chkL R root (inR R n root) with
    | none =>
      unfold checkR at h
      rw [if_neg h0, if_neg (by simp [h1]), hc] at h
      cases h
    | some c =>
      refine ⟨⟨c, rfl⟩, ?_⟩
      obtain ⟨l1, _⟩ := chkL_len hc
      cases hA : c.sides.any (fun x => x != 0 && !c.S.contains x) with
      | true =>
        rw [checkR_side h0 h1 hc hA] at h
        cases h
      | false =>
        by_cases hB : (3 * (nodeG R root).size) % 18446744073709551616 = c.S.length
        · rw [l1] at hB
          have h9 := three_inj rfl hB hs hlen2
          clear hB
          unfold tsizeR
          rw [h9, IntWalk.wrap64_in _ (by omega)]
        · rw [checkR_of h0 h1 hc hA hB] at h
          cases h
  · unfold checkR at h
    rw [if_neg h0, if_pos h1] at h
    cases h
/-- an index of hs -/
theorem idx_any (a : Int) (n : Nat) (hn : 0 < n) : ∃ i : Nat, i < n ∧ (a.tmod n + n).tmod n = (i : Int) ∧ -(n : Int) < a.tmod n ∧ a.tmod n < n := by
  have h1 := Int.tmod_lt_of_pos a (show (0 : Int) < n by omega)
  have h2 : -(n : Int) < a.tmod n := by
    have := Int.lt_tmod_of_pos a (show (0 : Int) < n by omega)
    omega
  refine ⟨((a.tmod n + n).tmod n).toNat, ?_, ?_, h2, h1⟩
  · have := Int.tmod_lt_of_pos (a.tmod n + n) (show (0 : Int) < n by omega)
    have := Int.tmod_nonneg (n : Int) (show 0 ≤ a.tmod n + n by omega)
    omega
  · have := Int.tmod_nonneg (n : Int) (show 0 ≤ a.tmod n + n by omega)
    omega
end Go.Proofs.YtjpmlneihbckpaaGreatDoor
/- The walk layer without a store. -/
set_option linter.unusedVariables false
set_option linter.unusedSimpArgs false
namespace Go.Proofs.YtjpmlneihbckpaaGreatDoor
open Go.RowKit Go.Shelf
set_option maxRecDepth 100000 in
theorem words_nil (w : World) : Calls Tryz.prog 123 #[.pointer none] w fun e w' => e = .returned (.int .i64 0) ∧ w = w' := by
  go_enter Tryz.func123, Tryz.ntmps123
  go_wp2_with fail
  refine (snone_nil _).mono ?_
  rintro e w' ⟨rfl, rfl⟩
  go_wp2
  go_ret
  exact ⟨rfl, rfl⟩
set_option maxRecDepth 100000 in
theorem limit_nil (w : World) : Calls Tryz.prog 96 #[.pointer none] w fun e w' => e = .returned (.int .i64 1) ∧ w = w' := by
  go_enter Tryz.func96, Tryz.ntmps96
  go_wp2_with fail
  refine (words_nil _).mono ?_
  rintro e w' ⟨rfl, rfl⟩
  go_wp2
  go_ret
  exact ⟨rfl, rfl⟩
set_option maxRecDepth 100000 in
theorem pair_nil (x : Nat) (w : World) : Calls Tryz.prog 61 #[.pointer none, .int .u64 (x : Nat)] w fun e w' => e = .returned (.tuple #[.agg #[.string ⟨#[]⟩, .string ⟨#[]⟩], .int .i64 1]) ∧ Below w.heap.size w w' := by
  have hb0 : Below w.heap.size w (w.alloc (Obj.cells #[Value.string ⟨#[]⟩, Value.string ⟨#[]⟩] 46)) := (Below.refl _ w).alloc (Nat.le_refl _) _
  have c0 : (w.alloc (Obj.cells #[Value.string ⟨#[]⟩, Value.string ⟨#[]⟩] 46)).cell? ⟨w.heap.size, 0, none⟩ = some (.string ⟨#[]⟩) := by go_simp
  have c1 : (w.alloc (Obj.cells #[Value.string ⟨#[]⟩, Value.string ⟨#[]⟩] 46)).cell? ⟨w.heap.size, 1, none⟩ = some (.string ⟨#[]⟩) := by go_simp
  have f0 : (w.alloc (Obj.cells #[Value.string ⟨#[]⟩, Value.string ⟨#[]⟩] 46)).frozen? ⟨w.heap.size, 0, none⟩ = false := by go_simp
  have f1 : (w.alloc (Obj.cells #[Value.string ⟨#[]⟩, Value.string ⟨#[]⟩] 46)).frozen? ⟨w.heap.size, 1, none⟩ = false := by go_simp
  have hG := Lib.hid (nget_nil x (w.alloc (Obj.cells #[Value.string ⟨#[]⟩, Value.string ⟨#[]⟩] 46)))
  unfold Nd.v Nd.zero at hG
  have hb0H := Lib.hid hb0
  clear hb0
  go_enter Tryz.func61, Tryz.ntmps61
  go_wp2_with fail
  generalize (w.alloc (Obj.cells #[Value.string ⟨#[]⟩, Value.string ⟨#[]⟩] 46)) = W at *
  refine hG.out.mono ?_
  rintro e w1 ⟨rfl, hb1⟩
  have hz := hb1.size
  have g0 := (hb1.cell (p := ⟨w.heap.size, 0, none⟩) (cell_lt c0)).trans c0
  have g1 := (hb1.cell (p := ⟨w.heap.size, 1, none⟩) (cell_lt c1)).trans c1
  have k0 := (hb1.frozen (p := ⟨w.heap.size, 0, none⟩) (cell_lt c0)).trans f0
  have k1 := (hb1.frozen (p := ⟨w.heap.size, 1, none⟩) (cell_lt c1)).trans f1
  have hlt : w.heap.size < w1.heap.size := cell_lt (a := ⟨w.heap.size, 0, none⟩) g0
  have hbH := Lib.hid (hb0H.out.trans (hb1.mono hb0H.out.size))
  clear hb1 c0 c1 f0 f1
  have ht := two_set g0 g1 (.string ⟨#[]⟩) (.string ⟨#[]⟩)
  have r0 := alloc_cell (Obj.cells #[Value.int IntKind.u64 0, Value.int IntKind.u64 0, Value.int IntKind.u64 0, Value.int IntKind.u64 0, Value.int IntKind.u64 0, Value.int IntKind.u64 0] 53) ht.1
  have r1 := alloc_cell (Obj.cells #[Value.int IntKind.u64 0, Value.int IntKind.u64 0, Value.int IntKind.u64 0, Value.int IntKind.u64 0, Value.int IntKind.u64 0, Value.int IntKind.u64 0] 53) ht.2
  have hbf := Lib.hid (((hbH.out.setCell (p := ⟨w.heap.size, 0, none⟩) (Nat.le_refl _) (.string ⟨#[]⟩)).setCell (p := ⟨w.heap.size, 1, none⟩) (Nat.le_refl _) (.string ⟨#[]⟩)).alloc (by simp; omega) (Obj.cells #[Value.int IntKind.u64 0, Value.int IntKind.u64 0, Value.int IntKind.u64 0, Value.int IntKind.u64 0, Value.int IntKind.u64 0, Value.int IntKind.u64 0] 53))
  clear ht
  go_wp2
  refine bodyPost_ret (v := .tuple #[.agg #[.string ⟨#[]⟩, .string ⟨#[]⟩], .int .i64 1]) ?_ rfl ⟨rfl, hbf.out⟩
  simp [results, Tryz.f61, go_sem, r0, r1]
set_option maxRecDepth 100000 in
theorem check_nil (x : Nat) (w : World) : Calls Tryz.prog 54 #[.pointer none, .int .u64 (x : Nat)] w fun e w' => e = .returned (.int .i64 1) ∧ Below w.heap.size w w' := by
  have hb0 : Below w.heap.size w ((w.alloc (Obj.cells #[Value.pointer none] 25)).alloc (Obj.cells #[Value.int IntKind.i64 0] 26)) := ((Below.refl _ w).alloc (Nat.le_refl _) _).alloc (by simp) _
  have hL := Lib.hid (slen_nil 0 ((w.alloc (Obj.cells #[Value.pointer none] 25)).alloc (Obj.cells #[Value.int IntKind.i64 0] 26)))
  have q2 : Boxed ((w.alloc (Obj.cells #[Value.pointer none] 25)).alloc (Obj.cells #[Value.int IntKind.i64 0] 26)) (w.heap.size + 1) 26 (.int .i64 0) := by
    have := Boxed.new (w.alloc (Obj.cells #[Value.pointer none] 25)) 26 (.int .i64 0)
    rwa [show (w.alloc (Obj.cells #[Value.pointer none] 25)).heap.size = w.heap.size + 1 by simp] at this
  have r2 := q2.cell
  have f2 := q2.frozen
  have r3 := (q2.set (.int .i64 1)).cell
  have hbf := Lib.hid (hb0.setCell (p := ⟨w.heap.size + 1, 0, none⟩) (by simp) (.int .i64 1))
  clear hb0 q2
  go_enter Tryz.func54, Tryz.ntmps54
  go_wp2_with fail
  generalize ((w.alloc (Obj.cells #[Value.pointer none] 25)).alloc (Obj.cells #[Value.int IntKind.i64 0] 26)) = W at *
  refine hL.out.mono ?_
  rintro e w1 ⟨rfl, rfl⟩
  go_wp2
  refine bodyPost_ret (v := .int .i64 1) ?_ rfl ⟨rfl, hbf.out⟩
  simp [results, Tryz.f54, go_sem, r3]
end Go.Proofs.YtjpmlneihbckpaaGreatDoor
/- walk.List without a store. -/
set_option linter.unusedVariables false
set_option linter.unusedSimpArgs false
namespace Go.Proofs.YtjpmlneihbckpaaGreatDoor
open Go.RowKit Go.Shelf
attribute [local go_sem] Oper.semAt_some wide_fn
set_option maxHeartbeats 2000000 in
set_option maxRecDepth 100000 in
theorem in_nil {w : World} {N B1 B2 root : Nat} {E : World → Nat → Prop} (hB1 : w.cell? ⟨B1, 0, none⟩ = some (.pointer none)) (hB2 : Boxed w B2 32 (.int .u64 (root : Nat))) :
    SeqMv Fence.wide 8 Tryz.prog 95 #[.pointer (some ⟨B1, 0, none⟩), .pointer (some ⟨B2, 0, none⟩)] (fun x : {y : Nat // y ∈ ([] : List Nat)} => #[.int .u64 (x.1 : Nat), Nd.zero.v]) (KM E) (Mv N E) (fun xs => xs.map (·.1) = ([] : List Nat)) (fun pre => ∃ t, ([] : List Nat) = pre.map (·.1) ++ t) 0 w := fun l J Jx W hBW hJ hJx hY h0 => by
  have hb1 := (hBW.cell (p := ⟨B1, 0, none⟩) (cell_lt hB1)).trans hB1
  have hb2 : Boxed W B2 32 (.int .u64 (root : Nat)) := (hBW.block _ hB2.lt).trans hB2
  have hb2c := hb2.cell
  have hJH := Lib.hid hJ
  have J0 := Lib.hid h0
  have hLi := Lib.hid ((callsIn_wide (n := 7)).2 (limit_nil W))
  have hG := (callsIn_wide (n := 7)).2 (nget_nil root W)
  unfold Nd.v Nd.zero at hG
  have hGH := Lib.hid hG
  have fin : ∀ W', Below W.heap.size W W' → (∃ xs : List {y : Nat // y ∈ ([] : List Nat)}, xs.map (·.1) = ([] : List Nat) ∧ J xs W') := fun W' hb => ⟨[], rfl, hJH.out _ _ _ J0.out (Mv.below hb)⟩
  have finH := Lib.hid fin
  clear hJ hJx hY h0 hB1 hB2 hBW hG fin
  refine callsIn_of_wp Tryz.func95 rfl trivial ?_ rfl
  simp only [Tryz.ntmps95, List.size_toArray, List.length_cons, List.length_nil, Nat.reduceAdd, Nat.reduceSub, Array.replicate_succ, Array.replicate_zero, List.push_toArray, List.append_toArray, List.nil_append, List.cons_append]
  by_cases hr : root = 0
  · subst hr
    gi_wp2_with fail
    refine hLi.out.mono ?_
    rintro e w1 ⟨rfl, rfl⟩
    gi_wp2_with fail
    gi_loopw [4, 6] (fun sv kv wr => sv = .slice none 0 0 ∧ kv = .int .i64 0 ∧ wr = W) (fun _ kv _ => (intOf kv).toNat)
    case atStart => exact ⟨rfl, rfl, rfl⟩
    case round =>
      obtain ⟨rfl, rfl, rfl⟩ := hrel
      gi_wp2_with fail
      gi_loopw [4, 6] (fun sv kv wi => sv = .slice none 0 0 ∧ kv = .int .i64 0 ∧ wi = wr) (fun _ kv _ => (intOf kv).toNat)
      case atStart => exact ⟨rfl, rfl, rfl⟩
      case round =>
        obtain ⟨rfl, rfl, rfl⟩ := hrel
        gi_wp2
        refine bodyPost_ret (v := .tuple #[]) (by simp [results, Tryz.f95, go_sem]) rfl ?_
        exact ⟨⟨_, rfl⟩, .inl (finH.out _ (Below.refl _ _))⟩
  · have dr : ((root : Int) != 0) = true := by simp; omega
    gi_wp2_with fail
    refine hLi.out.mono ?_
    rintro e w1 ⟨rfl, rfl⟩
    gi_wp2_with fail
    gi_loopw [4, 6] (fun sv kv wr => sv = .slice none 0 0 ∧ kv = .int .i64 0 ∧ wr = W) (fun _ kv _ => (intOf kv).toNat)
    case atStart => exact ⟨rfl, rfl, rfl⟩
    case round =>
      obtain ⟨rfl, rfl, rfl⟩ := hrel
      gi_wp2_with fail
      gi_loopw [4, 6] (fun sv kv wi => sv = .slice none 0 0 ∧ kv = .int .i64 0 ∧ wi = wr) (fun _ kv _ => (intOf kv).toNat)
      case atStart => exact ⟨rfl, rfl, rfl⟩
      case round =>
        obtain ⟨rfl, rfl, rfl⟩ := hrel
        gi_wp2_with fail
        refine hGH.out.mono ?_
        rintro e w2 ⟨rfl, hb2⟩
        have hz := hb2.size
        have hbH := Lib.hid (hb2.alloc hz (Obj.cells #[Value.int IntKind.u64 0, Value.int IntKind.u64 0, Value.int IntKind.u64 0, Value.int IntKind.u64 0, Value.int IntKind.u64 0, Value.int IntKind.u64 0] 53))
        clear hb2
        gi_wp2
        refine bodyPost_ret (v := .tuple #[]) (by simp [results, Tryz.f95, go_sem]) rfl ?_
        exact ⟨⟨_, rfl⟩, .inl (finH.out _ hbH.out)⟩
set_option maxRecDepth 100000 in
theorem in_calls_nil (x : Nat) (w : World) : Calls Tryz.prog 65 #[.pointer none, .int .u64 (x : Nat)] w fun e w' => e = .returned (.func (.func 95) #[] #[.pointer (some ⟨w.heap.size, 0, none⟩), .pointer (some ⟨w.heap.size + 1, 0, none⟩)]) ∧ w' = (w.alloc (.cells #[.pointer none] 25)).alloc (.cells #[.int .u64 (x : Nat)] 32) := by
  go_enter Tryz.func65, Tryz.ntmps65
  go_wp2
  go_ret
  exact ⟨rfl, rfl⟩
set_option maxHeartbeats 4000000 in
set_option maxRecDepth 100000 in
theorem list_nil (x : Nat) (w : World) : Calls Tryz.prog 30 #[.pointer none, .int .u64 (x : Nat)] w fun e w' => ∃ A c, e = .returned (.slice A 0 c) ∧ Below w.heap.size w w' := by
  refine (callsIn_wide (n := 9)).1 ?_
  have hIn := Lib.hid (fun w => (callsIn_wide (n := 8)).2 (in_calls_nil x w))
  refine callsIn_of_wp_marks Tryz.func30 rfl trivial ?_ rfl
  simp only [Tryz.ntmps30, List.size_toArray, List.length_cons, List.length_nil, Nat.reduceAdd, Nat.reduceSub, Array.replicate_succ, Array.replicate_zero, List.push_toArray, List.append_toArray, List.nil_append, List.cons_append]
  gi_wp2_with fail
  refine (hIn.out _).mono ?_
  rintro e w2 ⟨rfl, hW2⟩
  have hsz1 : (w.alloc (Obj.cells #[Value.slice none 0 0] 49)).heap.size = w.heap.size + 1 := by simp
  rw [hsz1]
  have hbx : Boxed w2 w.heap.size 49 (.slice none 0 0) := by rw [hW2]; exact ((Boxed.new w _ _).alloc _).alloc _
  have hx1 : w2.cell? ⟨w.heap.size + 1, 0, none⟩ = some (.pointer none) := by rw [hW2]; go_simp
  have hx2 : Boxed w2 (w.heap.size + 1 + 1) 32 (.int .u64 (x : Nat)) := by
    rw [hW2]
    have := Boxed.new ((w.alloc (Obj.cells #[Value.slice none 0 0] 49)).alloc (Obj.cells #[Value.pointer none] 25)) 32 (.int .u64 (x : Nat))
    rw [show ((w.alloc (Obj.cells #[Value.slice none 0 0] 49)).alloc (Obj.cells #[Value.pointer none] 25)).heap.size = w.heap.size + 1 + 1 by simp] at this
    exact this
  have hb2w : Below w.heap.size w w2 := by rw [hW2]; exact (((Below.refl _ w).alloc (Nat.le_refl _) _).alloc (by simp) _).alloc (by simp; omega) _
  have hz2' : w.heap.size + 3 ≤ w2.heap.size := by rw [hW2]; simp
  clear hW2 hsz1 hIn
  gi_wp2_with fail
  refine wpIn_rangeFunc_mv (α := {y : Nat // y ∈ ([] : List Nat)}) rfl (by omega) (gf := 95) (lb := #[.pointer (some ⟨w.heap.size + 1, 0, none⟩), .pointer (some ⟨w.heap.size + 1 + 1, 0, none⟩)]) rfl trivial (enters_of Tryz.func95 (by kernel_rfl) rfl)
    (in_nil (N := w.heap.size) (E := OutB w.heap.size) hx1 hx2)
    (fun A B hm k o hk ho => hm.keep k o hk (.inr (.inr ho)))
    (fun h k => h.trans k) (fun W l o o' hl' hl h1 h2 => ⟨KB.putObj o' hl h1 h2, fun k hk => .inl (outB_cell (World.cell?_of_block (a := ⟨w.heap.size, 0, none⟩) (World.putObj_heap_other (by simp; omega))) k hk)⟩) (Below.refl _ _) (fun _ => rfl)
    (fun pre W => RowI w 49 32 (hsV (pre.map (fun (z : {y : Nat // y ∈ ([] : List Nat)}) => z.1))) W)
    (fun cd pre W => False)
    (rowI_own w _ _ (fun pre : List {y : Nat // y ∈ ([] : List Nat)} => hsV (pre.map (fun (z : {y : Nat // y ∈ ([] : List Nat)}) => z.1))) _ (by omega))
    (fun _ _ _ _ _ hs _ _ => hs)
    (fun s A B hs hm => rowI_mv hs hm)
    (fun c s A B hs hm => hs)
    ⟨_, hbx, World.ownsRow_nil _ _ _ _, hb2w⟩
    (fun z a' W => False)
    (fun _ _ _ _ _ _ hs _ _ => hs)
    ?assign ?body ?done ?stop
  case assign =>
    rintro l pre ⟨y, hy⟩
    simp at hy
  case body =>
    rintro l pre ⟨z, hz⟩
    simp at hz
  case done =>
    rintro D' xs W hD hxs hi hK
    rw [hxs] at hi
    obtain ⟨v, hv, hrow, hb⟩ := hi
    rw [show (hsV ([] : List Nat)).length = 0 from rfl] at hrow
    obtain ⟨A, c, rfl⟩ := ownsRow_form hrow
    have hc := hv.cell
    have hbH := Lib.hid hb
    clear hb hrow hv hxs
    gi_wp2
    refine ⟨by simp, .inl ⟨_, _, rfl, run_takeDeferred hK, ?_⟩⟩
    refine ⟨.slice A 0 c, by simp [results, Tryz.f30, go_sem], A, c, rfl, ?_⟩
    exact hbH.out.trans (belowK_b (w := w) (Nat.le_refl _) _ D' _ _ (by omega) hK rfl rfl)
  case stop =>
    rintro D' cd pre W hD hSp hf
    exact hf.elim
end Go.Proofs.YtjpmlneihbckpaaGreatDoor
/- What all laws' claims share. -/
set_option linter.unusedVariables false
namespace Go.Proofs.YtjpmlneihbckpaaGreatDoor
theorem base_stands : True := trivial
end Go.Proofs.YtjpmlneihbckpaaGreatDoor

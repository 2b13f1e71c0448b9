/-
  The seat's own texts, part j: Find, HeapIs, AllocPlain, Alloc.
-/
import Derived.Test.YtjcpclcmnhpgpaaGreatDoorFMb
import Derived.Test.YtjcpclcmnhpgpaaGreatDoorFMi

set_option linter.unusedVariables false
set_option linter.unusedSimpArgs false
namespace Go.Proofs.YtjcpclcmnhpgpaaGreatDoor
open Go.RowKit Go.Shelf
attribute [local go_sem] Oper.semAt_some wide_fn
structure Out4 (B : Nat) (u v : Value) (x y z : Value) (t : Value) (W : World) : Prop where
  c1 : W.cell? ⟨B + 1, 0, none⟩ = some u
  c2 : W.cell? ⟨B + 1 + 1, 0, none⟩ = some v
  c3 : W.cell? ⟨B + 1 + 1 + 1, 0, none⟩ = some x
  c4 : W.cell? ⟨B + 1 + 1 + 1, 1, none⟩ = some y
  c5 : W.cell? ⟨B + 1 + 1 + 1, 2, none⟩ = some z
  c6 : W.cell? ⟨B + 1 + 1 + 1 + 1, 0, none⟩ = some t
  f1 : W.frozen? ⟨B + 1, 0, none⟩ = false
  f2 : W.frozen? ⟨B + 1 + 1, 0, none⟩ = false
  f3 : W.frozen? ⟨B + 1 + 1 + 1, 0, none⟩ = false
  f4 : W.frozen? ⟨B + 1 + 1 + 1, 1, none⟩ = false
  f5 : W.frozen? ⟨B + 1 + 1 + 1, 2, none⟩ = false
  f6 : W.frozen? ⟨B + 1 + 1 + 1 + 1, 0, none⟩ = false
theorem Out4.kept {B : Nat} {u v x y z t : Value} {W W' : World} {row : Option Nat} (h : Out4 B u v x y z t W) (hg : W.grownBy W' row) (hr : ∀ r, row = some r → ∃ o : Obj, W.heap[r]? = some o ∧ o.isCells = false) : Out4 B u v x y z t W' :=
  ⟨cell_kept h.c1 hg hr, cell_kept h.c2 hg hr, cell_kept h.c3 hg hr, cell_kept h.c4 hg hr, cell_kept h.c5 hg hr, cell_kept h.c6 hg hr,
   (frozen_kept h.c1 hg hr).trans h.f1, (frozen_kept h.c2 hg hr).trans h.f2, (frozen_kept h.c3 hg hr).trans h.f3, (frozen_kept h.c4 hg hr).trans h.f4, (frozen_kept h.c5 hg hr).trans h.f5, (frozen_kept h.c6 hg hr).trans h.f6⟩
theorem Out4.below {B : Nat} {u v x y z t : Value} {W W' : World} (h : Out4 B u v x y z t W) (hb : Below W.heap.size W W') : Out4 B u v x y z t W' :=
  h.kept (row := none) ⟨hb.os, hb.tape, hb.output, hb.size, fun k hk _ => hb.block k hk⟩ (fun r e => by cases e)
def wr6 (W : World) (B : Nat) (u v x y z t : Value) : World := ((((((W.setCell ⟨B + 1, 0, none⟩ u).setCell ⟨B + 1 + 1, 0, none⟩ v).setCell ⟨B + 1 + 1 + 1, 0, none⟩ x).setCell ⟨B + 1 + 1 + 1, 1, none⟩ y).setCell ⟨B + 1 + 1 + 1, 2, none⟩ z).setCell ⟨B + 1 + 1 + 1 + 1, 0, none⟩ t).drew
theorem cell_set (W : World) (p r : Addr) (v : Value) : p ≠ r → (W.setCell p v).cell? r = W.cell? r := fun h => World.cell?_setCell_other _ _ _ _ h
theorem Out4.set {B : Nat} {u v x y z t : Value} {W : World} (h : Out4 B u v x y z t W) (u' v' x' y' z' t' : Value) : Out4 B u' v' x' y' z' t' (wr6 W B u' v' x' y' z' t') := by
  obtain ⟨h1, h2, h3, h4, h5, h6, f1, f2, f3, f4, f5, f6⟩ := h
  unfold wr6
  refine ⟨?_, ?_, ?_, ?_, ?_, ?_, ?_, ?_, ?_, ?_, ?_, ?_⟩
  · rw [cell_drew_own, cell_set _ _ _ _ (by simp), cell_set _ _ _ _ (by simp), cell_set _ _ _ _ (by simp), cell_set _ _ _ _ (by simp), cell_set _ _ _ _ (by simp)]
    exact World.cell?_setCell_same' _ _ _ (by rw [h1]; rfl)
  · rw [cell_drew_own, cell_set _ _ _ _ (by simp), cell_set _ _ _ _ (by simp), cell_set _ _ _ _ (by simp), cell_set _ _ _ _ (by simp)]
    exact World.cell?_setCell_same' _ _ _ (by rw [cell_set _ _ _ _ (by simp), h2]; rfl)
  · rw [cell_drew_own, cell_set _ _ _ _ (by simp), cell_set _ _ _ _ (by simp), cell_set _ _ _ _ (by simp)]
    exact World.cell?_setCell_same' _ _ _ (by rw [cell_set _ _ _ _ (by simp), cell_set _ _ _ _ (by simp), h3]; rfl)
  · rw [cell_drew_own, cell_set _ _ _ _ (by simp), cell_set _ _ _ _ (by simp)]
    exact World.cell?_setCell_same' _ _ _ (by rw [cell_set _ _ _ _ (by simp), cell_set _ _ _ _ (by simp), cell_set _ _ _ _ (by simp), h4]; rfl)
  · rw [cell_drew_own, cell_set _ _ _ _ (by simp)]
    exact World.cell?_setCell_same' _ _ _ (by rw [cell_set _ _ _ _ (by simp), cell_set _ _ _ _ (by simp), cell_set _ _ _ _ (by simp), cell_set _ _ _ _ (by simp), h5]; rfl)
  · rw [cell_drew_own]
    exact World.cell?_setCell_same' _ _ _ (by rw [cell_set _ _ _ _ (by simp), cell_set _ _ _ _ (by simp), cell_set _ _ _ _ (by simp), cell_set _ _ _ _ (by simp), cell_set _ _ _ _ (by simp), h6]; rfl)
  all_goals rw [frozen_drew_own]; simp only [World.frozen?_setCell]; assumption
theorem out4_below {w W : World} (h : Below w.heap.size w W) (u v x y z t : Value) : Below w.heap.size w (wr6 W w.heap.size u v x y z t) :=
  ((((((h.setCell (p := ⟨_, _, _⟩) (by simp) _).setCell (p := ⟨_, _, _⟩) (by simp; omega) _).setCell (p := ⟨_, _, _⟩) (by simp; omega) _).setCell (p := ⟨_, _, _⟩) (by simp; omega) _).setCell (p := ⟨_, _, _⟩) (by simp; omega) _).setCell (p := ⟨_, _, _⟩) (by simp; omega) _).drew
theorem out4_keeps (W : World) (B C : Nat) (u v x y z t : Value) : KeepsFrom C W (wr6 W B u v x y z t) :=
  (((((((KeepsOthers.setCell _ _ _).trans (KeepsOthers.setCell _ _ _)).trans (KeepsOthers.setCell _ _ _)).trans (KeepsOthers.setCell _ _ _)).trans (KeepsOthers.setCell _ _ _)).trans (KeepsOthers.setCell _ _ _)).trans (KeepsOthers.drew _)).from _
theorem block_div {x : Nat × Hd} (hx : x.2.Ok) {b : Nat × Nat} (hb : b ∈ blocksOf x) : x.1 ≤ b.1 / 64 ∧ b.1 / 64 < x.1 + x.2.len := by
  have := block_within hx hb
  omega
def FindR (x : Nat × Hd) (addr : Nat) (v : Value) : Prop :=
  match x.2 with
  | .small c m => ∃ k, k < slotsN c ∧ m.testBit k = true ∧ addr = 64 * x.1 + 2 + k * sz c ∧ v = .tuple #[.int .i64 (x.1 : Nat), .int .i64 (k : Nat), hdV x.2, .bool true]
  | .large _ => addr = 64 * x.1 + 2 ∧ v = .tuple #[.int .i64 (x.1 : Nat), .int .i64 0, hdV x.2, .bool true]
set_option maxHeartbeats 4000000 in
set_option maxRecDepth 100000 in
theorem find_at {w : World} {ha a mb q : Nat} {D : DW} {L : HL} {mem : Nat → Nat} (h : HeapAt w ha a mb D (runs L) q mem) (hl : Lay L) (hh : Heads L mem) (y : Nat × Hd) (hy : y ∈ L) (b : Nat × Nat) (hb : b ∈ blocksOf y) :
    Calls Tryz.prog 131 #[.pointer (some ⟨ha, 0, none⟩), .int .i64 (b.1 : Nat)] w fun e w' => ∃ v, e = .returned v ∧ FindR y b.1 v ∧ Below w.heap.size w w' := by
  refine (callsIn_wide (n := 9)).1 ?_
  have hHd := Lib.hid (fun w => (callsIn_wide (n := 8)).2 (heads_calls ha w))
  have hyp : y.1 ∈ runs L := mem_runs.2 ⟨y, hy, Nat.le_refl _, by have := y.2.len_pos; omega⟩
  have hlow := h.sl.low _ hyp
  have hdiv := block_div (hl.ok y hy) hb
  have hwi := block_within (hl.ok y hy) hb
  have hap : Hid (∀ x ∈ L, x = y ∨ (x.1 ≠ b.1 / 64 ∧ b.1 ≠ 64 * x.1 + 2)) := Lib.hid (fun x hx => by
    rcases heads_apart hl hx hy with h1 | h1 | h1
    · exact .inl h1
    · have := x.2.len_pos; exact .inr ⟨by omega, by omega⟩
    · exact .inr ⟨by omega, by omega⟩)
  have HH := Lib.hid h
  have Hl := Lib.hid hl
  have Hh := Lib.hid hh
  have HY := Lib.hid hy
  have HB := Lib.hid hb
  have hylen : y.2.len ≤ 63 := by
    have := hl.ok y hy
    obtain ⟨p, hd⟩ := y
    cases hd with
    | small c m => simp [Hd.len]
    | large ww => obtain ⟨h1, h2⟩ := this; simp only [Hd.len]; omega
  obtain ⟨addr, bsz⟩ := b
  dsimp only at *
  clear h hl hh hyp hy hb
  refine callsIn_of_wp_marks Tryz.func131 rfl trivial ?_ rfl
  simp only [Tryz.ntmps131, List.size_toArray, List.length_cons, List.length_nil, Nat.reduceAdd, Nat.reduceSub, Array.replicate_succ, Array.replicate_zero, List.push_toArray, List.append_toArray, List.nil_append, List.cons_append]
  gi_wp2_with fail
  have ho0 : Out4 w.heap.size (.int .i64 0) (.int .i64 0) (.int .i64 0) (.int .i64 0) (.int .u64 0) (.bool false) (((((w.alloc (Obj.cells #[Value.int IntKind.i64 (addr : Nat)] 3)).alloc (Obj.cells #[Value.int IntKind.i64 0] 3)).alloc (Obj.cells #[Value.int IntKind.i64 0] 3)).alloc (Obj.cells #[Value.int IntKind.i64 0, Value.int IntKind.i64 0, Value.int IntKind.u64 0] 153)).alloc (Obj.cells #[Value.bool false] 4)) := by
    refine ⟨?_, ?_, ?_, ?_, ?_, ?_, ?_, ?_, ?_, ?_, ?_, ?_⟩ <;> go_simp
  have hn0 : (((((w.alloc (Obj.cells #[Value.int IntKind.i64 (addr : Nat)] 3)).alloc (Obj.cells #[Value.int IntKind.i64 0] 3)).alloc (Obj.cells #[Value.int IntKind.i64 0] 3)).alloc (Obj.cells #[Value.int IntKind.i64 0, Value.int IntKind.i64 0, Value.int IntKind.u64 0] 153)).alloc (Obj.cells #[Value.bool false] 4)).cell? ⟨w.heap.size, 0, none⟩ = some (.int .i64 (addr : Nat)) := by go_simp
  have hb0 : Below w.heap.size w (((((w.alloc (Obj.cells #[Value.int IntKind.i64 (addr : Nat)] 3)).alloc (Obj.cells #[Value.int IntKind.i64 0] 3)).alloc (Obj.cells #[Value.int IntKind.i64 0] 3)).alloc (Obj.cells #[Value.int IntKind.i64 0, Value.int IntKind.i64 0, Value.int IntKind.u64 0] 153)).alloc (Obj.cells #[Value.bool false] 4)) := (((((Below.refl _ w).alloc (Nat.le_refl _) _).alloc (by simp) _).alloc (by simp; omega) _).alloc (by simp; omega) _).alloc (by simp; omega) _
  have hz0 : (((((w.alloc (Obj.cells #[Value.int IntKind.i64 (addr : Nat)] 3)).alloc (Obj.cells #[Value.int IntKind.i64 0] 3)).alloc (Obj.cells #[Value.int IntKind.i64 0] 3)).alloc (Obj.cells #[Value.int IntKind.i64 0, Value.int IntKind.i64 0, Value.int IntKind.u64 0] 153)).alloc (Obj.cells #[Value.bool false] 4)).heap.size ≥ w.heap.size + 5 := by simp
  generalize (((((w.alloc (Obj.cells #[Value.int IntKind.i64 (addr : Nat)] 3)).alloc (Obj.cells #[Value.int IntKind.i64 0] 3)).alloc (Obj.cells #[Value.int IntKind.i64 0] 3)).alloc (Obj.cells #[Value.int IntKind.i64 0, Value.int IntKind.i64 0, Value.int IntKind.u64 0] 153)).alloc (Obj.cells #[Value.bool false] 4)) = w1 at *
  refine (hHd.out _).mono ?_
  rintro e w2 ⟨rfl, hW2⟩
  have hb2 : Below w1.heap.size w1 w2 := hW2 ▸ (Below.refl _ w1).alloc (Nat.le_refl _) _
  have hx2 : w2.cell? ⟨w1.heap.size, 0, none⟩ = some (.pointer (some ⟨ha, 0, none⟩)) := by rw [hW2]; go_simp
  have hz2 : w1.heap.size + 1 ≤ w2.heap.size := by rw [hW2]; simp
  have hn2 := (hb2.cell (p := ⟨w.heap.size, 0, none⟩) (cell_lt hn0)).trans hn0
  have ho2 := ho0.below hb2
  have hb2w := hb0.trans (hb2.mono hb0.size)
  clear hW2 hb2 hn0 ho0 hb0
  gi_wp2_with fail
  have HH2 := Lib.hid (HH.out.below hb2w)
  refine wpIn_rangeFunc_ownH (α := {z : Nat × Hd // z ∈ L}) rfl (by omega) (gf := 110) (lb := #[.pointer (some ⟨w1.heap.size, 0, none⟩)]) rfl trivial (enters_of Tryz.func110 (by kernel_rfl) rfl)
    (heads_stops HH2.out Hl.out Hh.out hx2 (fun _ => False) (fun _ h => h.elim) (fun h => h) (fun h => h) (fun h => h) (fun _ h => h.elim))
    (fun h k => h.trans k) (fun W l o o' _ hl h1 h2 => KB.putObj o' hl h1 h2) (Below.refl _ _) (fun _ => rfl)
    (fun pre W => y ∉ pre.map (fun (z : {z : Nat × Hd // z ∈ L}) => z.1) ∧ Below w2.heap.size w2 W)
    (fun cd pre W => cd = .ret ∧ (∃ u v, FindR y addr (.tuple #[u, v, hdV y.2, .bool true]) ∧ Out4 w.heap.size u v (.int .i64 (hdK y.2 : Nat)) (.int .i64 (hdN y.2 : Nat)) (.int .u64 (hdW y.2 : Nat)) (.bool true) W) ∧ Below w.heap.size w W)
    (fun s A B row hs hg hr => ⟨hs.1, ownFrom_below (Nat.le_refl _) (by omega) s A B row hs.2 hg hr⟩)
    (fun cd s A B row hs hg hr => by
      obtain ⟨h1, ⟨u, v, h2, h5⟩, h6⟩ := hs
      exact ⟨h1, ⟨u, v, h2, h5.kept hg (fun r e => (hr r e).2)⟩, ownFrom_below (Nat.le_refl _) (by omega) s A B row h6 hg hr⟩)
    ⟨by simp, Below.refl _ _⟩
    (fun x a' W => ∃ B, w2.heap.size ≤ B ∧ HdBox W B x.1.2 ∧ a' = { tmps := #[Value.pointer (some { block := ha, off := 0 }), Value.int IntKind.i64 (addr : Nat), undef, Value.pointer (some { block := w.heap.size, off := 0 }), Value.pointer (some { block := w.heap.size + 1, off := 0 }), Value.pointer (some { block := w.heap.size + 1 + 1, off := 0 }), Value.pointer (some { block := w.heap.size + 1 + 1 + 1, off := 0 }), Value.pointer (some { block := w.heap.size + 1 + 1 + 1 + 1, off := 0 }), Value.int IntKind.i64 (x.1.1 : Nat), Value.pointer (some { block := B, off := 0 }), undef, undef, undef, Value.pointer (some { block := ha, off := 0 }), Value.func (Fn.func 110) #[] #[Value.pointer (some { block := w1.heap.size, off := 0 })], Value.int IntKind.i64 (x.1.1 : Nat), hdV x.1.2, undef, undef, undef, undef, undef, undef, undef, undef, undef, undef, undef, undef, undef, undef, undef, undef, undef, undef, undef, undef, undef, undef, undef, undef, undef, undef, undef, undef, undef, undef, undef, undef, undef, undef, undef, undef, undef, undef, undef, undef, undef, undef, undef, undef, undef, undef, undef, undef, undef], defers := [] })
    (fun x a' s A B row hs hg hr => by
      obtain ⟨B', h1, h2, h3⟩ := hs
      exact ⟨B', h1, h2.kept hg (fun r e => (hr r e).2), h3⟩)
    ?assign ?body ?done ?stop
  case assign =>
    rintro l pre ⟨⟨p, hd⟩, hxm⟩ W K ⟨hny, hi⟩ hK
    dsimp only at hK ⊢
    have hb : Below W.heap.size W (W.alloc (Obj.cells #[Value.int IntKind.i64 (hdK hd : Nat), Value.int IntKind.i64 (hdN hd : Nat), Value.int IntKind.u64 (hdW hd : Nat)] 153)) := (Below.refl _ W).alloc (Nat.le_refl _) _
    have hK2 := hK _ (W.alloc (Obj.cells #[Value.int IntKind.i64 (hdK hd : Nat), Value.int IntKind.i64 (hdN hd : Nat), Value.int IntKind.u64 (hdW hd : Nat)] 153)) ((keepsOthers_below hb).from _) (KB.below hb) ⟨hny, hi.trans (hb.mono hi.size)⟩ ⟨W.heap.size, hi.size, hdBox_new _ _ _, rfl⟩
    have hK2H := Lib.hid hK2
    clear hK hK2 hb hi
    rw [hdV_eq] at hK2H ⊢
    gi_wp2
    exact hK2H.out
  case body =>
    rintro l pre ⟨⟨p, hd⟩, hxm⟩ a' W hl ⟨r, hr⟩ ⟨hny, hi⟩ ⟨B, hBz, hbx, rfl⟩ hlen
    dsimp only at hbx ⊢
    have hnyH : Hid (y ∉ pre.map (fun (z : {z : Nat × Hd // z ∈ L}) => z.1)) := Lib.hid hny
    have hn3 := (hi.cell (p := ⟨w.heap.size, 0, none⟩) (cell_lt hn2)).trans hn2
    have ho3 := ho2.below hi
    have hok := Hl.out.ok _ hxm
    have hapx := hap.out _ hxm
    have hxp : p ∈ runs L := mem_runs.2 ⟨(p, hd), hxm, Nat.le_refl _, by have := hd.len_pos; simp only; omega⟩
    have hplow := HH.out.sl.low _ hxp
    have hk := hbx.k
    have hn := hbx.n
    have hw := hbx.w
    have hbw := hb2w.trans (hi.mono hb2w.size)
    have hii := Lib.hid hi
    have hbwH := Lib.hid hbw
    have hBW : B < W.heap.size := cell_lt hk
    clear hi hbw hxp hny
    by_cases hxy : (p, hd) = y
    · subst hxy
      clear hapx
      cases hd with
      | large ww =>
        have hbl : addr = 64 * p + 2 := by
          have := HB.out
          simp only [blocksOf, List.mem_singleton, Prod.mk.injEq] at this
          exact this.1
        have hfin : Hid (FindR (p, Hd.large ww) addr (.tuple #[.int .i64 (p : Nat), .int .i64 0, hdV (Hd.large ww), .bool true])) := Lib.hid ⟨hbl, rfl⟩
        simp only [hdK, hdN, hdW] at hk hn hw ⊢
        generalize (ww + 65) / 64 = nn at *
        have d0 : ((2 : Int) == 2) = true := by decide
        have d2 : ((addr : Int) == (p : Int) * 64 + 2) = true := by simp; omega
        clear hok hbl
        have hset := Lib.hid (ho3.set (.int .i64 (p : Nat)) (.int .i64 0) (.int .i64 2) (.int .i64 (nn : Nat)) (.int .u64 (ww : Nat)) (.bool true))
        have hsb := Lib.hid (out4_below (w := w) hbwH.out (.int .i64 (p : Nat)) (.int .i64 0) (.int .i64 2) (.int .i64 (nn : Nat)) (.int .u64 (ww : Nat)) (.bool true))
        have hsk := Lib.hid (out4_keeps W w.heap.size w2.heap.size (.int .i64 (p : Nat)) (.int .i64 0) (.int .i64 2) (.int .i64 (nn : Nat)) (.int .u64 (ww : Nat)) (.bool true))
        obtain ⟨q1, q2, q3, q4, q5, q6, u1, u2, u3, u4, u5, u6⟩ := ho3
        gi_wp2
        gi_region_with_o (fail)
        all_goals
          gi_wp2
          exact ⟨hsk.out, rfl, ⟨_, _, hfin.out, hset.out⟩, hsb.out⟩
      | small cc m =>
        obtain ⟨k0, hk0, hm0, had⟩ : ∃ k0, k0 < slotsN cc ∧ m.testBit k0 = true ∧ addr = 64 * p + 2 + k0 * sz cc := by
          have := HB.out
          simp only [blocksOf, List.mem_map, Prod.mk.injEq] at this
          obtain ⟨k0, h1, h2, _⟩ := this
          rw [mem_slotsOf] at h1
          exact ⟨k0, h1.1, h1.2, h2.symm⟩
        have hfin : Hid (FindR (p, Hd.small cc m) addr (.tuple #[.int .i64 (p : Nat), .int .i64 (k0 : Nat), hdV (Hd.small cc m), .bool true])) := Lib.hid ⟨k0, hk0, hm0, had, rfl⟩
        obtain ⟨hc8, _, hmS⟩ := hok
        have hm64 : Hid (m < 18446744073709551616) := Lib.hid (Nat.lt_trans hmS (pow_lt64 (by have := slots_small cc; omega)))
        have hs31 := slots_small cc
        have hroom := slot_room cc k0 hc8 hk0
        have hsl : slotsR ((cc : Nat) : Int) = .tuple #[.int .i64 (slotsN cc : Nat), .int .i64 0] := if_pos ⟨by omega, by omega⟩
        have hS := Lib.hid (fun w => CallsIn.inRound l ((callsIn_wide (n := 6)).2 (slots_any (cc : Nat) w)))
        have hkH := Lib.hid hk0
        have hmH := Lib.hid hm0
        have hadH := Lib.hid had
        simp only [hdK, hdN, hdW] at hk hn hw ⊢
        have d0 : ((1 : Int) == 2) = false := by decide
        have d1 : ((1 : Int) != 1) = false := by decide
        have d2 : ((addr : Int) / 64 != (p : Int)) = false := by simp; simp only [Hd.len] at hdiv; omega
        have haB : addr < 67108864 := by omega
        clear hmS had hk0 hm0 hdiv hwi
        gi_wp2_with fail
        refine (hS.out _).mono ?_
        rintro e W' ⟨rfl, hbS⟩
        rw [hsl]
        have ho4 := ho3.below hbS
        have hn4 := (hbS.cell (p := ⟨w.heap.size, 0, none⟩) (cell_lt hn3)).trans hn3
        have hbx4 : HdBox W' B (.small cc m) := ⟨(hbS.cell (p := ⟨B, 0, none⟩) hBW).trans hk, (hbS.cell (p := ⟨B, 1, none⟩) hBW).trans hn, (hbS.cell (p := ⟨B, 2, none⟩) hBW).trans hw⟩
        have hk4 := Lib.hid ((keepsOthers_below hbS).from w2.heap.size)
        have hbw4 := Lib.hid (hbwH.out.trans (hbS.mono hbwH.out.size))
        have hz4 := hbS.size
        clear hbS hk hn hw hn3 ho3 d0 d1 d2
        gi_wp2_with fail
        generalize hsn : slotsN cc = sn at *
        have hsnH := Lib.hid hsn
        clear hsn
        gi_loopw [45] (fun kv wr => ∃ k : Nat, k ≤ k0 ∧ kv = .int .i64 k ∧ Hid (Below W'.heap.size W' wr)) (fun kv _ => k0 + 1 - (intOf kv).toNat)
        case atStart => exact ⟨0, by omega, rfl, Lib.hid (Below.refl _ _)⟩
        case round =>
          obtain ⟨k, hkk, rfl, hbr⟩ := hrel
          have hkn := hkH.out
          have hlt : k < sn := by omega
          have ho5 := ho4.below hbr.out
          have hn5 := (hbr.out.cell (p := ⟨w.heap.size, 0, none⟩) (cell_lt hn4)).trans hn4
          have hbk := (hbr.out.cell (p := ⟨B, 0, none⟩) (cell_lt hbx4.k)).trans hbx4.k
          have hbn := (hbr.out.cell (p := ⟨B, 1, none⟩) (cell_lt hbx4.n)).trans hbx4.n
          have hbm := (hbr.out.cell (p := ⟨B, 2, none⟩) (cell_lt hbx4.w)).trans hbx4.w
          simp only [hdK, hdN, hdW] at hbk hbn hbm
          have hPl := Lib.hid (fun w => CallsIn.inRound l ((callsIn_wide (n := 6)).2 (hplace_at p cc k hplow hc8 (by rw [hsnH.out]; omega) w)))
          have hHas := Lib.hid (fun w => CallsIn.inRound l ((callsIn_wide (n := 6)).2 (has_at m k hm64.out (by omega) w)))
          by_cases hkk0 : k < k0
          · have hne : ((64 * p + 2 + k * sz cc : Nat) : Int) ≠ (addr : Int) := by
              have h1 := hadH.out
              have h2 : (k + 1) * sz cc ≤ k0 * sz cc := Nat.mul_le_mul_right _ hkk0
              have h3 := sz_pos cc
              rw [Nat.add_mul] at h2
              omega
            generalize 64 * p + 2 + k * sz cc = A at *
            have d4 : ((A : Int) == (addr : Int)) = false := by simpa using hne
            clear hne
            have hmo : Tryz.prog.follows .mixedOrders = true := by kernel_rfl
            have x1 := fun X : Bel wr => X.cell hn5
            have x2 := fun X : Bel wr => X.cell hbk
            have x3 := fun X : Bel wr => X.cell hbn
            have x4 := fun X : Bel wr => X.cell hbm
            gi_wp2
            refine wpIn_region_calm (by kernel_rfl) hmo (by kernel_rfl) ?_
            repeat (gi_big_quiet_step ((gi_at_call 81; exact callsIn_calm (hPl.out _))))
            refine wpQuietIn_nil ?_
            rintro _ ⟨X, rfl⟩
            have hbX := Lib.hid (hbr.out.trans (X.h.mono hbr.out.size))
            gi_wp2
            go_roundw
            case rel => exact ⟨k + 1, by omega, by go_num, hbX⟩
            case measure => simp [intOf]; omega
          · obtain rfl : k = k0 := by omega
            have hA := hadH.out
            have d4 : (((64 * p + 2 + k * sz cc : Nat) : Int) == (addr : Int)) = true := by rw [← hA]; simp
            generalize 64 * p + 2 + k * sz cc = A at *
            have d5 := hmH.out
            clear hA
            have hmo : Tryz.prog.follows .mixedOrders = true := by kernel_rfl
            have x1 := fun X : Bel wr => X.cell hn5
            have x2 := fun X : Bel wr => X.cell hbk
            have x3 := fun X : Bel wr => X.cell hbn
            have x4 := fun X : Bel wr => X.cell hbm
            gi_wp2
            refine wpIn_region_calm (by kernel_rfl) hmo (by kernel_rfl) ?_
            repeat (gi_big_quiet_step ((first | (gi_at_call 81; exact callsIn_calm (hPl.out _)) | (gi_at_call 80; exact callsIn_calm ((hHas.out _).mono fun e w' h => ⟨h.1, h.2 ▸ Below.refl _ _⟩)))))
            refine wpQuietIn_nil ?_
            rintro _ ⟨X, rfl⟩
            have ho6 := ho5.below X.h
            have y1 := X.cell hbk
            have y2 := X.cell hbn
            have y3 := X.cell hbm
            have hkX := Lib.hid ((keepsOthers_below (hbr.out.trans (X.h.mono hbr.out.size))).from w2.heap.size)
            have hbX := Lib.hid (hbw4.out.trans ((hbr.out.trans (X.h.mono hbr.out.size)).mono hbw4.out.size))
            generalize X.W = W6 at *
            have hset := Lib.hid (ho6.set (.int .i64 (p : Nat)) (.int .i64 (k : Nat)) (.int .i64 1) (.int .i64 (cc : Nat)) (.int .u64 (m : Nat)) (.bool true))
            have hsb := Lib.hid (out4_below (w := w) hbX.out (.int .i64 (p : Nat)) (.int .i64 (k : Nat)) (.int .i64 1) (.int .i64 (cc : Nat)) (.int .u64 (m : Nat)) (.bool true))
            have hsk := Lib.hid (out4_keeps W6 w.heap.size w2.heap.size (.int .i64 (p : Nat)) (.int .i64 (k : Nat)) (.int .i64 1) (.int .i64 (cc : Nat)) (.int .u64 (m : Nat)) (.bool true))
            obtain ⟨q1, q2, q3, q4, q5, q6, u1, u2, u3, u4, u5, u6⟩ := ho6
            clear x1 x2 x3 x4 hbk hbn hbm hn5 ho5
            gi_wp2
            gi_region_with_o (fail)
            all_goals
              gi_wp2
              exact ⟨hk4.out.trans (hkX.out.trans hsk.out), rfl, ⟨_, _, hfin.out, hset.out⟩, hsb.out⟩
    · have hapx2 := hapx.resolve_left hxy
      obtain ⟨hp1, hp2⟩ := hapx2
      have hnyx : Hid (y ∉ (pre ++ [(⟨(p, hd), hxm⟩ : {z : Nat × Hd // z ∈ L})]).map (fun (z : {z : Nat × Hd // z ∈ L}) => z.1)) := Lib.hid (by
        have := hnyH.out
        simp only [List.map_append, List.mem_append, not_or, List.map_cons, List.map_nil, List.mem_singleton] at this ⊢
        exact ⟨this, fun e => hxy e.symm⟩)
      clear hapx hxy hbx
      cases hd with
      | large ww =>
        simp only [hdK, hdN, hdW] at hk hn hw
        dsimp only at hp1 hp2
        have d0 : ((2 : Int) == 2) = true := by decide
        have d1 : ((2 : Int) != 1) = true := by decide
        have d2 : ((addr : Int) == (p : Int) * 64 + 2) = false := by simp; omega
        clear hok
        gi_wp2
        exact ⟨KeepsFrom.refl _ _, KB.refl _ _, hnyx.out, hii.out⟩
      | small cc m =>
        simp only [hdK, hdN, hdW] at hk hn hw
        dsimp only at hp1 hp2
        have d0 : ((1 : Int) == 2) = false := by decide
        have d1 : ((1 : Int) != 1) = false := by decide
        have d2 : ((addr : Int) / 64 != (p : Int)) = true := by simp; omega
        clear hok
        gi_wp2
        exact ⟨KeepsFrom.refl _ _, KB.refl _ _, hnyx.out, hii.out⟩
  case done =>
    rintro D' xs W hD hxs ⟨hny, hi⟩ hK
    exact absurd (by rw [hxs]; exact HY.out) hny
  case stop =>
    rintro D' cd pre W hD ⟨t, ht⟩ ⟨rfl, ⟨u, v, hf, ho⟩, hb⟩ hK
    have hbH := Lib.hid hb
    have hfH := Lib.hid hf
    have hset2 := ho.kept (grownBy_putObj' _ D' (.deferred none)) (fun r e => by cases e; exact ⟨_, hK, rfl⟩)
    obtain ⟨u1, u2, u3, u4, u5, u6, _⟩ := hset2
    clear hb ho ht hf hdiv hwi
    gi_wp2
    refine ⟨by simp, .inl ⟨_, _, rfl, run_takeDeferred hK, ?_⟩⟩
    refine ⟨.tuple #[u, v, hdV y.2, .bool true], ?_, ?_⟩
    · simp [results, Tryz.f131, go_sem, u1, u2, u3, u4, u5, u6, hdV_eq]
    · exact ⟨_, rfl, hfH.out, hbH.out.trans (belowK_b (w := w) (Nat.le_refl _) _ D' _ _ (by omega) hK rfl rfl)⟩
end Go.Proofs.YtjcpclcmnhpgpaaGreatDoor

set_option linter.unusedVariables false
set_option linter.unusedSimpArgs false
namespace Go.Proofs.YtjcpclcmnhpgpaaGreatDoor
open Go.RowKit Go.Shelf
theorem HeapAt.perm {w : World} {ha a mb q : Nat} {D : DW} {ps ps' : List Nat} {mem : Nat → Nat} (h : HeapAt w ha a mb D ps q mem) (hp : ps.Perm ps') : HeapAt w ha a mb D ps' q mem :=
  ⟨h.hs, h.sl.perm hp, h.off, h.tab, h.tabF⟩
structure HeapIs (w : World) (ha a : Nat) (F : Nat → Prop) (L : HL) (q : Nat) (mem : Nat → Nat) : Prop where
  at' : ∃ mb D, HeapAt w ha a mb D (runs L) q mem ∧ F = SlabF a mb D
  lay : Lay L
  heads : Heads L mem
theorem HeapIs.below {w w' : World} {ha a q : Nat} {F : Nat → Prop} {L : HL} {mem : Nat → Nat} (h : HeapIs w ha a F L q mem) (hb : Below w.heap.size w w') : HeapIs w' ha a F L q mem := by
  obtain ⟨⟨mb, D, h1, h2⟩, h3, h4⟩ := h
  exact ⟨⟨mb, D, h1.below hb, h2⟩, h3, h4⟩
theorem HeapIs.lt {w : World} {ha a q : Nat} {F : Nat → Prop} {L : HL} {mem : Nat → Nat} (h : HeapIs w ha a F L q mem) {b : Nat} (hb : F b) : b < w.heap.size := by
  obtain ⟨⟨mb, D, h1, rfl⟩, h3, h4⟩ := h
  exact h1.sl.lt hb
theorem HeapIs.off {w : World} {ha a q : Nat} {F : Nat → Prop} {L : HL} {mem : Nat → Nat} (h : HeapIs w ha a F L q mem) : ¬ F ha ∧ ha < w.heap.size ∧ F a ∧ ∀ b, F b → 1 < b := by
  obtain ⟨⟨mb, D, h1, rfl⟩, h3, h4⟩ := h
  exact ⟨h1.off, cell_lt h1.hs, .inl rfl, h1.tabF⟩
theorem HeapIs.turn {w w' : World} {ha a q : Nat} {F G G' : Nat → Prop} {L : HL} {mem : Nat → Nat} (h : HeapIs w ha a F L q mem) (ht : Turn w G w' G') (hG : ∀ b, F b → ¬ G b) (hha : ¬ G ha) (htab : ¬ G 1) : HeapIs w' ha a F L q mem := by
  obtain ⟨⟨mb, D, h1, rfl⟩, h3, h4⟩ := h
  refine ⟨⟨mb, D, ?_, rfl⟩, h3, h4⟩
  have hlt := Nat.lt_trans (h1.tabF a (.inl rfl)) (h1.sl.lt (.inl rfl))
  exact ⟨(World.cell?_of_block (a := ⟨ha, 0, none⟩) (ht.keep ha (cell_lt h1.hs) hha)).trans h1.hs, h1.sl.same (fun b hb => ht.keep b (h1.sl.lt hb) (hG b hb)), h1.off,
    fun j hj => (World.cell?_of_block (a := ⟨1, j, none⟩) (ht.keep _ hlt htab)).trans (h1.tab j hj), h1.tabF⟩
theorem read_is {w : World} {ha a q : Nat} {F : Nat → Prop} {L : HL} {mem : Nat → Nat} (h : HeapIs w ha a F L q mem) {b : Nat × Nat} (hb : b ∈ blocks L) (x : Nat) (h1 : b.1 ≤ x) (h2 : x < b.1 + b.2) :
    Calls Tryz.prog 51 #[.pointer (some ⟨a, 0, none⟩), .int .i64 (x : Nat)] w fun e w' => e = .returned (.tuple #[.int .u64 (mem x : Nat), .int .i64 0]) ∧ w = w' := by
  obtain ⟨⟨mb, D, k1, rfl⟩, k3, k4⟩ := h
  exact read_at k1.sl x (block_page k3 hb h1 h2)
theorem write_is {w : World} {ha a q : Nat} {F : Nat → Prop} {L : HL} {mem : Nat → Nat} (h : HeapIs w ha a F L q mem) {b : Nat × Nat} (hb : b ∈ blocks L) (x v : Nat) (h1 : b.1 ≤ x) (h2 : x < b.1 + b.2) (hv : v < 18446744073709551616) :
    Calls Tryz.prog 92 #[.pointer (some ⟨a, 0, none⟩), .int .i64 (x : Nat), .int .u64 (v : Nat)] w fun e w' => e = .returned (.int .i64 0) ∧ HeapIs w' ha a F L q (upd mem x v) ∧ Turn w F w' F := by
  obtain ⟨⟨mb, D, k1, rfl⟩, k3, k4⟩ := h
  refine (write_at k1.sl x v (block_page k3 hb h1 h2) hv).mono ?_
  rintro e w' ⟨rfl, hW, hS⟩
  have ht := wrote_turn (a := a) (mb := mb) hW
  exact ⟨rfl, ⟨⟨mb, D, k1.turn hS ht, rfl⟩, k3, k4.write k3 hb h1 h2⟩, ht⟩
theorem runs_mid (L1 L2 : HL) (x : Nat × Hd) : (runs (L1 ++ x :: L2)).Perm (List.range' x.1 x.2.len ++ runs (L1 ++ L2)) := by
  simp only [runs, List.flatMap_append, List.flatMap_cons]
  rw [← List.append_assoc, ← List.append_assoc]
  exact List.perm_append_comm.append_right _
theorem mem_split {α : Type} {x : α} {l : List α} (h : x ∈ l) : ∃ l1 l2, l = l1 ++ x :: l2 := List.append_of_mem h
theorem Heads.other {L L' : HL} {mem mem' : Nat → Nat} (h : Heads L mem) (hs : ∀ x ∈ L', x ∈ L ∧ mem' (64 * x.1) = mem (64 * x.1) ∧ mem' (64 * x.1 + 1) = mem (64 * x.1 + 1)) : Heads L' mem' := by
  intro x hx
  obtain ⟨h1, h2, h3⟩ := hs x hx
  have := h x h1
  obtain ⟨p, hd⟩ := x
  cases hd <;> simp only at this h2 h3 ⊢ <;> rw [h2, h3] <;> exact this
theorem lay_other {L1 L2 : HL} {x y : Nat × Hd} (h : Lay (L1 ++ x :: L2)) (hy : y ∈ L1 ++ L2) : y.1 ≠ x.1 := by
  have hr := h.rise
  rw [List.pairwise_append, List.pairwise_cons] at hr
  obtain ⟨r1, ⟨r2, r3⟩, r4⟩ := hr
  rcases List.mem_append.1 hy with h1 | h1
  · have := r4 y h1 x List.mem_cons_self
    have := y.2.len_pos; omega
  · have := r2 y h1
    have := x.2.len_pos; omega
theorem leave_heads {L1 L2 : HL} {mem : Nat → Nat} {p c m k : Nat} (hl : Lay (L1 ++ (p, .small c m) :: L2)) (h : Heads (L1 ++ (p, .small c m) :: L2) mem) :
    Heads (L1 ++ L2) (leaveM mem p c m k) ∧ Heads (L1 ++ (p, .small c (m ^^^ 2 ^ k)) :: L2) (leaveM mem p c m k) := by
  have h1 : Heads (L1 ++ L2) (leaveM mem p c m k) := by
    refine h.other fun x hx => ?_
    have hne := lay_other hl hx
    refine ⟨?_, ?_, ?_⟩
    · rcases List.mem_append.1 hx with h2 | h2
      · exact List.mem_append_left _ h2
      · exact List.mem_append_right _ (List.mem_cons_of_mem _ h2)
    · simp only [leaveM, upd]; rw [if_neg (by omega), if_neg (by simp only at hne; omega)]
    · simp only [leaveM, upd]; rw [if_neg (by simp only at hne; omega), if_neg (by omega)]
  refine ⟨h1, fun x hx => ?_⟩
  rcases List.mem_append.1 hx with h2 | h2
  · exact h1 x (List.mem_append_left _ h2)
  · rcases List.mem_cons.1 h2 with rfl | h3
    · simp only [leaveM, upd]
      rw [if_neg (by omega), if_pos trivial, if_pos trivial]
      exact ⟨rfl, rfl⟩
    · exact h1 x (List.mem_append_right _ h3)
theorem leave_mem {L : HL} {mem : Nat → Nat} {p c m k : Nat} (hl : Lay L) (hx : (p, Hd.small c m) ∈ L) {b : Nat × Nat} (hb : b ∈ blocks L) {i : Nat} (h1 : b.1 ≤ i) (h2 : i < b.1 + b.2) : leaveM mem p c m k i = mem i := by
  have := block_no_head hl hb hx h1 h2
  simp only at this
  simp only [leaveM, upd]
  rw [if_neg this.2, if_neg this.1]
structure Freed (L : HL) (mem : Nat → Nat) (b : Nat × Nat) (L' : HL) (mem' : Nat → Nat) : Prop where
  perm : (blocks L).Perm (b :: blocks L')
  pages : (runs L').length ≤ (runs L).length
  same : ∀ c ∈ blocks L', ∀ i, c.1 ≤ i → i < c.1 + c.2 → mem' i = mem i
set_option maxHeartbeats 2000000 in
set_option maxRecDepth 100000 in
theorem free_is {w : World} {ha a q : Nat} {F : Nat → Prop} {L : HL} {mem : Nat → Nat} (h : HeapIs w ha a F L q mem) (b : Nat × Nat) (hb : b ∈ blocks L) :
    Calls Tryz.prog 100 #[.pointer (some ⟨ha, 0, none⟩), .int .i64 (b.1 : Nat)] w fun e w' => ∃ F' L' mem', e = .returned (.int .i64 0) ∧ HeapIs w' ha a F' L' q mem' ∧ Turn w F w' F' ∧ Freed L mem b L' mem' := by
  obtain ⟨y, hy, hby⟩ := mem_blocks.1 hb
  obtain ⟨⟨mb, D, k1, rfl⟩, k3, k4⟩ := h
  have hN := Lib.hid (heapNone_at k1)
  have hF := Lib.hid (find_at k1 k3 k4 y hy b hby)
  obtain ⟨L1, L2, rfl⟩ := mem_split hy
  have hok := k3.ok y hy
  have hhd := k4 y hy
  have HP := Lib.hid k1
  have HL' := Lib.hid k3
  have HH := Lib.hid k4
  have HB := Lib.hid hby
  clear k1 k3 k4 hb hby hy
  obtain ⟨p, hd⟩ := y
  cases hd with
  | large ww =>
    have hbe : b = (64 * p + 2, ww) := by
      have := HB.out
      simpa [blocksOf] using this
    subst hbe
    obtain ⟨hw1, hw2⟩ := hok
    have hFR : Hid (∀ v, FindR (p, Hd.large ww) (64 * p + 2) v → v = .tuple #[.int .i64 (p : Nat), .int .i64 0, hdV (.large ww), .bool true]) := Lib.hid (fun v hv => hv.2)
    have hV := Lib.hid (hdV_eq (.large ww))
    simp only [hdK, hdN, hdW] at hV
    have hlen : (Hd.large ww).len = (ww + 65) / 64 := rfl
    have hperm := Lib.hid (runs_mid L1 L2 (p, Hd.large ww))
    obtain ⟨nn, hnn⟩ : ∃ nn, nn = (ww + 65) / 64 := ⟨_, rfl⟩
    rw [← hnn] at hV
    simp only [hlen, ← hnn] at hperm
    have hnnb : 1 ≤ nn ∧ nn ≤ 63 := by omega
    obtain ⟨hn1, hn63⟩ := hnnb
    have hnnH := Lib.hid hnn
    have hs := HP.out.hs
    clear hlen hnn hhd
    go_enter Tryz.func100, Tryz.ntmps100
    go_wp2_with fail
    refine hN.out.mono ?_
    rintro e w' ⟨rfl, rfl⟩
    go_wp2_with fail
    rw [show ((64 * (p : Int) + 2)) = ((64 * p + 2 : Nat) : Int) by push_cast; rfl]
    refine hF.out.mono ?_
    rintro e w1 ⟨v, rfl, hv, hb1⟩
    obtain rfl := hFR.out v hv
    rw [hV.out]
    go_wp2_with fail
    have hbA : Below w.heap.size w (w1.alloc (Obj.cells #[Value.int IntKind.i64 2, Value.int IntKind.i64 (nn : Nat), Value.int IntKind.u64 (ww : Nat)] 153)) := hb1.alloc hb1.size _
    have hcn : (w1.alloc (Obj.cells #[Value.int IntKind.i64 2, Value.int IntKind.i64 (nn : Nat), Value.int IntKind.u64 (ww : Nat)] 153)).cell? ⟨w1.heap.size, 1, none⟩ = some (.int .i64 (nn : Nat)) := by go_simp
    have HP1 := Lib.hid (HP.out.below hbA)
    have T1 := Lib.hid (Turn.below (F := SlabF a mb D) hbA)
    clear hb1 hbA hs hv hF
    generalize (w1.alloc (Obj.cells #[Value.int IntKind.i64 2, Value.int IntKind.i64 (nn : Nat), Value.int IntKind.u64 (ww : Nat)] 153)) = W1 at *
    have hs1 := HP1.out.hs
    have x1 := fun X : Bel W1 => X.cell hs1
    have x2 := fun X : Bel W1 => X.cell hcn
    refine wp_region_calm_tail 7 (by kernel_rfl) (by kernel_rfl) ?_
    simp only [List.take_succ_cons, List.take_zero, List.drop_succ_cons, List.drop_zero]
    repeat (go_big_quiet_step (fail))
    refine wpQuiet_nil ?_
    rintro _ ⟨X, rfl⟩
    have HP2 := Lib.hid ((HP1.out.below X.h).perm hperm.out)
    have T2 := Lib.hid (T1.out.trans (.below X.h))
    generalize X.W = W2 at *
    clear x1 x2 hs1 hcn
    go_wp2_with fail
    refine (release_at (ps := runs (L1 ++ L2)) p nn (h := HP2.out.sl) hn1 (by omega)).mono ?_
    rintro e W3 ⟨D', rfl, hS6, hSh⟩
    have t6 := sh_turn (a := a) hSh
    have HP6 := Lib.hid (HP2.out.turn hS6 t6)
    have T6 := Lib.hid (T2.out.trans t6)
    clear hS6 hSh t6
    go_wp2
    go_ret
    refine ⟨_, L1 ++ L2, mem, rfl, ⟨⟨mb, D', HP6.out, rfl⟩, lay_drop HL'.out, HH.out.other (fun x hx => ⟨?_, rfl, rfl⟩)⟩, T6.out, ⟨?_, ?_, fun _ _ _ _ _ => rfl⟩⟩
    · rcases List.mem_append.1 hx with h2 | h2
      · exact List.mem_append_left _ h2
      · exact List.mem_append_right _ (List.mem_cons_of_mem _ h2)
    · exact blocks_mid L1 L2 (p, .large ww)
    · have := hperm.out.length_eq
      rw [List.length_append] at this
      omega
  | small c m =>
    obtain ⟨k, hk, hmk, hbe⟩ : ∃ k, k < slotsN c ∧ m.testBit k = true ∧ b = (64 * p + 2 + k * sz c, sz c) := by
      have := HB.out
      simp only [blocksOf, List.mem_map] at this
      obtain ⟨k, h1, h2⟩ := this
      rw [mem_slotsOf] at h1
      exact ⟨k, h1.1, h1.2, h2.symm⟩
    have hFR : Hid (∀ v, FindR (p, Hd.small c m) b.1 v → v = .tuple #[.int .i64 (p : Nat), .int .i64 (k : Nat), hdV (.small c m), .bool true]) := Lib.hid (fun v hv => by
      obtain ⟨k', h1, h2, h3, h4⟩ := hv
      have : k' = k := by
        rw [hbe] at h3
        simp only at h3
        have h5 : k' * sz c = k * sz c := by omega
        exact Nat.eq_of_mul_eq_mul_right (by have := sz_pos c; omega) h5
      subst this
      exact h4)
    obtain ⟨hc8, hm0, hmS⟩ := hok
    simp only at hhd
    obtain ⟨hh1, hh2⟩ := hhd
    have hV := Lib.hid (hdV_eq (.small c m))
    simp only [hdK, hdN, hdW] at hV
    have hlen : (Hd.small c m).len = 1 := rfl
    have hperm := runs_mid L1 L2 (p, Hd.small c m)
    simp only [hlen, List.range'_one, List.singleton_append] at hperm
    have hpermH := Lib.hid hperm
    have hkH := Lib.hid hk
    have hmH := Lib.hid hmk
    have hbH := Lib.hid hbe
    have h1H := Lib.hid hh1
    have h2H := Lib.hid hh2
    have hmSH := Lib.hid hmS
    obtain ⟨addr, bs⟩ := b
    dsimp only at hFR hF ⊢
    clear hlen hperm hk hmk hbe hh1 hh2 hm0 hmS
    go_enter Tryz.func100, Tryz.ntmps100
    go_wp2_with fail
    refine hN.out.mono ?_
    rintro e w' ⟨rfl, rfl⟩
    go_wp2_with fail
    refine hF.out.mono ?_
    rintro e w1 ⟨v, rfl, hv, hb1⟩
    obtain rfl := hFR.out v hv
    rw [hV.out]
    go_wp2_with fail
    have hbA : Below w.heap.size w (w1.alloc (Obj.cells #[Value.int IntKind.i64 1, Value.int IntKind.i64 (c : Nat), Value.int IntKind.u64 (m : Nat)] 153)) := hb1.alloc hb1.size _
    have HP1 := Lib.hid ((HP.out.below hbA).perm hpermH.out)
    have T1 := Lib.hid (Turn.below (F := SlabF a mb D) hbA)
    clear hb1 hbA hv hF
    generalize (w1.alloc (Obj.cells #[Value.int IntKind.i64 1, Value.int IntKind.i64 (c : Nat), Value.int IntKind.u64 (m : Nat)] 153)) = W1 at *
    refine (leave_at p c m k (h := HP1.out) hc8 hkH.out hmH.out h1H.out h2H.out).mono ?_
    rintro e W3 ⟨rfl, D', h3, t3⟩
    have HP3 := Lib.hid h3
    have T3 := Lib.hid (T1.out.trans t3)
    clear h3 t3
    go_wp2
    go_ret
    have hlh := leave_heads (k := k) HL'.out HH.out
    have hlx : (p, Hd.small c m) ∈ L1 ++ (p, Hd.small c m) :: L2 := by simp
    have hbm := hbH.out
    have hclr := blocks_clear (L1 := L1) (L2 := L2) (p := p) hkH.out hmH.out
    have hlenr := hpermH.out.length_eq
    rw [← hbm] at hclr
    by_cases h0 : m ^^^ 2 ^ k = 0
    · have h6 := HP3.out
      rw [if_pos h0] at h6
      rw [h0] at hclr
      have hpf := hclr.trans ((blocks_drop_zero L1 L2 p c).cons _)
      refine ⟨_, L1 ++ L2, _, rfl, ⟨⟨mb, D', h6, rfl⟩, lay_drop HL'.out, hlh.1⟩, T3.out, ⟨hpf, ?_, ?_⟩⟩
      · rw [hlenr]; simp
      · intro b' hb' i hi1 hi2
        exact leave_mem HL'.out hlx (hpf.mem_iff.2 (List.mem_cons_of_mem _ hb')) hi1 hi2
    · have h6 := HP3.out
      rw [if_neg h0] at h6
      have hok' : (Hd.small c (m ^^^ 2 ^ k)).Ok := ⟨hc8, h0, clear_lt hmSH.out hkH.out⟩
      refine ⟨_, L1 ++ (p, .small c (m ^^^ 2 ^ k)) :: L2, _, rfl, ⟨⟨mb, D', h6.perm ?_, rfl⟩, lay_turn HL'.out hok' rfl, hlh.2⟩, T3.out, ⟨hclr, ?_, ?_⟩⟩
      · rw [runs_turn (p := p) (hd := Hd.small c m) (hd' := Hd.small c (m ^^^ 2 ^ k)) rfl]
        exact hpermH.out.symm
      · rw [runs_turn (p := p) (hd := Hd.small c m) (hd' := Hd.small c (m ^^^ 2 ^ k)) rfl]
        exact Nat.le_refl _
      · intro b' hb' i hi1 hi2
        exact leave_mem HL'.out hlx (hclr.mem_iff.2 (List.mem_cons_of_mem _ hb')) hi1 hi2
end Go.Proofs.YtjcpclcmnhpgpaaGreatDoor

set_option linter.unusedVariables false
namespace Go.Proofs.YtjcpclcmnhpgpaaGreatDoor
open Go.RowKit Go.Shelf
def bszN (n : Nat) : Nat := if n ≤ 28 then sz (cls n) else n
def pgsN (n : Nat) : Nat := if n ≤ 28 then 1 else (n + 65) / 64
theorem cls_fits (n : Nat) (h : n ≤ 28) : cls n < 8 ∧ n ≤ sz (cls n) := by
  unfold cls
  (repeat' split) <;> simp [sz] <;> omega
theorem bszN_ge (n : Nat) : n ≤ bszN n := by
  unfold bszN
  split
  · exact (cls_fits n (by assumption)).2
  · exact Nat.le_refl _
theorem blocks_nodup {L : HL} (h : Lay L) : (blocks L).Nodup := by
  refine List.Pairwise.imp_of_mem (S := fun a b => a ≠ b) (fun {a b} ha hb hab => ?_) (blocks_rise h)
  rintro rfl
  obtain ⟨y, hy, hby⟩ := mem_blocks.1 ha
  have := block_within (h.ok y hy) hby
  omega
structure Got (L : HL) (mem : Nat → Nat) (addr n : Nat) (L' : HL) (mem' : Nat → Nat) : Prop where
  perm : (blocks L').Perm ((addr, bszN n) :: blocks L)
  pages : (runs L').length ≤ (runs L).length + pgsN n
  same : ∀ c ∈ blocks L, ∀ i, c.1 ≤ i → i < c.1 + c.2 → mem' i = mem i
  zero : ∀ i, addr ≤ i → i < addr + bszN n → mem' i = 0
theorem take_heads {L1 L2 : HL} {mem : Nat → Nat} {p c m k : Nat} (hl : Lay (L1 ++ (p, .small c (m ||| 2 ^ k)) :: L2)) (hk : k < slotsN c) (h : Heads (L1 ++ L2) mem) :
    Heads (L1 ++ (p, .small c (m ||| 2 ^ k)) :: L2) (takeM mem p c m k) := by
  have hx : (p, Hd.small c (m ||| 2 ^ k)) ∈ L1 ++ (p, .small c (m ||| 2 ^ k)) :: L2 := by simp
  have hc8 : c < 8 := (hl.ok _ hx).1
  have hroom := slot_room c k hc8 hk
  have h1 : Heads (L1 ++ L2) (takeM mem p c m k) := by
    refine h.other fun x hx => ⟨hx, ?_, ?_⟩
    · have hne := lay_other hl hx
      simp only at hne
      simp only [takeM, zeroW, upd]
      rw [if_neg (by omega), if_neg (by omega), if_neg (by omega)]
    · have hne := lay_other hl hx
      simp only at hne
      simp only [takeM, zeroW, upd]
      rw [if_neg (by omega), if_neg (by omega), if_neg (by omega)]
  intro x hx
  rcases List.mem_append.1 hx with h2 | h2
  · exact h1 x (List.mem_append_left _ h2)
  · rcases List.mem_cons.1 h2 with rfl | h3
    · simp only [takeM, zeroW, upd]
      rw [if_neg (by omega), if_neg (by omega), if_pos trivial, if_neg (by omega), if_pos trivial]
      exact ⟨rfl, rfl⟩
    · exact h1 x (List.mem_append_right _ h3)
theorem take_mem {L : HL} {mem : Nat → Nat} {p c m k : Nat} (hl : Lay L) (hx : (p, Hd.small c (m ||| 2 ^ k)) ∈ L) (hn : (64 * p + 2 + k * sz c, sz c) ∈ blocks L) {b : Nat × Nat} (hb : b ∈ blocks L) (hne : b ≠ (64 * p + 2 + k * sz c, sz c)) {i : Nat} (h1 : b.1 ≤ i) (h2 : i < b.1 + b.2) : takeM mem p c m k i = mem i := by
  have h3 := block_no_head hl hb hx h1 h2
  simp only at h3
  have h4 := blocks_apart hl hb hn
  simp only [takeM, zeroW, upd]
  rw [if_neg (by rcases h4 with h5 | h5 | h5; exact absurd h5 hne; all_goals (simp only at h5; omega)), if_neg h3.2, if_neg h3.1]
theorem got_slot {L1 L2 : HL} {mem : Nat → Nat} {p c m k n : Nat} (hl : Lay (L1 ++ (p, .small c m) :: L2)) (hh : Heads (L1 ++ (p, .small c m) :: L2) mem) (hk : k < slotsN c) (hm : m.testBit k = false) (hn : n ≤ 28) (hc : cls n = c) :
    Lay (L1 ++ (p, .small c (m ||| 2 ^ k)) :: L2) ∧ Heads (L1 ++ (p, .small c (m ||| 2 ^ k)) :: L2) (takeM mem p c m k) ∧
    Got (L1 ++ (p, .small c m) :: L2) mem (64 * p + 2 + k * sz c) n (L1 ++ (p, .small c (m ||| 2 ^ k)) :: L2) (takeM mem p c m k) := by
  have hok := hl.ok (p, .small c m) (by simp)
  have hl' : Lay (L1 ++ (p, .small c (m ||| 2 ^ k)) :: L2) := lay_turn hl (set_ok hok.1 hok.2.2 hk) rfl
  have hperm := blocks_set (L1 := L1) (L2 := L2) (p := p) hk hm
  have hb : bszN n = sz c := by unfold bszN; rw [if_pos hn, hc]
  refine ⟨hl', take_heads hl' hk (hh.other fun x hx => ⟨?_, rfl, rfl⟩), ?_, ?_, ?_, ?_⟩
  · rcases List.mem_append.1 hx with h2 | h2
    · exact List.mem_append_left _ h2
    · exact List.mem_append_right _ (List.mem_cons_of_mem _ h2)
  · rw [hb]; exact hperm
  · rw [runs_turn (p := p) (hd := Hd.small c m) (hd' := Hd.small c (m ||| 2 ^ k)) rfl]; omega
  · intro b hb' i h1 h2
    have hnd := hperm.nodup_iff.1 (blocks_nodup hl')
    rw [List.nodup_cons] at hnd
    exact take_mem hl' (by simp) (hperm.mem_iff.2 List.mem_cons_self) (hperm.mem_iff.2 (List.mem_cons_of_mem _ hb')) (fun e => hnd.1 (e ▸ hb')) h1 h2
  · intro i h1 h2
    rw [hb] at h2
    simp only [takeM, zeroW]
    rw [if_pos ⟨h1, h2⟩]
theorem zeroP_out {L : HL} {mem : Nat → Nat} (hl : Lay L) {f n : Nat} (hf : ∀ i, i < n → f + i ∉ runs L) {p : Nat} (hp : p ∈ runs L) (i : Nat) (hi : i / 64 = p) : zeroP mem f n i = mem i := by
  unfold zeroP
  rw [if_neg]
  rintro ⟨h1, h2⟩
  exact hf (p - f) (by omega) (by rw [show f + (p - f) = p by omega]; exact hp)
theorem got_page {L : HL} {mem : Nat → Nat} {f c n : Nat} (hl : Lay L) (hh : Heads L mem) (hf : f ∉ runs L) (hn : n ≤ 28) (hc : cls n = c) (mem2 : Nat → Nat) (hm2 : mem2 = upd (upd (zeroP mem f 1) (64 * f) (1 + 256 * c)) (64 * f + 1) 0) :
    ∃ L', (runs L ++ [f]).Perm (runs L') ∧ Lay L' ∧ Heads L' (takeM mem2 f c 0 0) ∧ Got L mem (64 * f + 2) n L' (takeM mem2 f c 0 0) := by
  have hcf := cls_fits n hn
  rw [hc] at hcf
  have hok : (Hd.small c (0 ||| 2 ^ 0)).Ok := by
    refine ⟨hcf.1, by decide, ?_⟩
    have : 1 < 2 ^ slotsN c := Nat.one_lt_two_pow (by
      have h8 := hcf.1
      have : c = 0 ∨ c = 1 ∨ c = 2 ∨ c = 3 ∨ c = 4 ∨ c = 5 ∨ c = 6 ∨ c = 7 := by omega
      rcases this with rfl | rfl | rfl | rfl | rfl | rfl | rfl | rfl <;> decide)
    simpa using this
  have hk : 0 < slotsN c := by
    have h8 := hcf.1
    have : c = 0 ∨ c = 1 ∨ c = 2 ∨ c = 3 ∨ c = 4 ∨ c = 5 ∨ c = 6 ∨ c = 7 := by omega
    rcases this with rfl | rfl | rfl | rfl | rfl | rfl | rfl | rfl <;> decide
  obtain ⟨L1, L2, rfl, h1, h2⟩ := lay_split hl f 1 (Nat.le_refl _) (fun k hk => by have e : k = 0 := (by omega); rw [e]; exact hf)
  have hl' : Lay (L1 ++ (f, .small c (0 ||| 2 ^ 0)) :: L2) := lay_insert hl hok h1 h2
  have hperm : (blocks (L1 ++ (f, .small c (0 ||| 2 ^ 0)) :: L2)).Perm ((64 * f + 2 + 0 * sz c, sz c) :: blocks (L1 ++ L2)) :=
    (blocks_set hk (Nat.zero_testBit 0)).trans ((blocks_drop_zero L1 L2 f c).cons _)
  have hb : bszN n = sz c := by unfold bszN; rw [if_pos hn, hc]
  have hfree : ∀ i, i < 1 → f + i ∉ runs (L1 ++ L2) := fun i hi => by have e : i = 0 := (by omega); rw [e]; exact hf
  have hm2' : ∀ p ∈ runs (L1 ++ L2), ∀ i, i / 64 = p → mem2 i = mem i := fun p hp i hi => by
    have hpf : p ≠ f := fun e => hf (e ▸ hp)
    rw [hm2]
    simp only [upd]
    rw [if_neg (by omega), if_neg (by omega)]
    exact zeroP_out hl hfree hp i hi
  refine ⟨_, ?_, hl', take_heads hl' hk (hh.other fun x hx => ⟨hx, ?_, ?_⟩), ?_, ?_, ?_, ?_⟩
  · exact List.perm_append_comm.trans (runs_mid L1 L2 (f, Hd.small c (0 ||| 2 ^ 0))).symm
  · exact hm2' x.1 (mem_runs.2 ⟨x, hx, Nat.le_refl _, by have := x.2.len_pos; omega⟩) _ (by omega)
  · exact hm2' x.1 (mem_runs.2 ⟨x, hx, Nat.le_refl _, by have := x.2.len_pos; omega⟩) _ (by omega)
  · rw [hb]
    simpa using hperm
  · have := (runs_mid L1 L2 (f, Hd.small c (0 ||| 2 ^ 0))).length_eq
    simp [Hd.len] at this
    unfold pgsN
    rw [if_pos hn]
    simp
    omega
  · intro b hb' i h1 h2
    have hnd := hperm.nodup_iff.1 (blocks_nodup hl')
    rw [List.nodup_cons] at hnd
    rw [take_mem hl' (by simp) (hperm.mem_iff.2 List.mem_cons_self) (hperm.mem_iff.2 (List.mem_cons_of_mem _ hb')) (fun e => hnd.1 (e ▸ hb')) h1 h2]
    exact hm2' _ (block_page hl hb' h1 h2) i rfl
  · intro i h1 h2
    rw [hb] at h2
    simp only [takeM, zeroW]
    rw [if_pos ⟨by omega, by omega⟩]
theorem got_large {L : HL} {mem : Nat → Nat} {f n : Nat} (hl : Lay L) (hh : Heads L mem) (hn : 28 < n) (hn2 : n ≤ 4000) (hf : ∀ i, i < (n + 65) / 64 → f + i ∉ runs L) (mem2 : Nat → Nat) (hm2 : mem2 = upd (upd (zeroP mem f ((n + 65) / 64)) (64 * f) (2 + 256 * ((n + 65) / 64))) (64 * f + 1) n) :
    ∃ L', (runs L ++ List.range' f ((n + 65) / 64)).Perm (runs L') ∧ Lay L' ∧ Heads L' mem2 ∧ Got L mem (64 * f + 2) n L' mem2 := by
  have hok : (Hd.large n).Ok := ⟨hn, hn2⟩
  obtain ⟨L1, L2, rfl, h1, h2⟩ := lay_split hl f ((n + 65) / 64) (by omega) hf
  have hl' : Lay (L1 ++ (f, .large n) :: L2) := lay_insert hl hok h1 h2
  have hperm : (blocks (L1 ++ (f, .large n) :: L2)).Perm ((64 * f + 2, n) :: blocks (L1 ++ L2)) := blocks_mid L1 L2 (f, .large n)
  have hb : bszN n = n := by unfold bszN; rw [if_neg (by omega)]
  have hm2' : ∀ p ∈ runs (L1 ++ L2), ∀ i, i / 64 = p → mem2 i = mem i := fun p hp i hi => by
    have hpf : p ≠ f := fun e => hf 0 (by omega) (by rw [Nat.add_zero]; exact e ▸ hp)
    rw [hm2]
    simp only [upd]
    rw [if_neg (by omega), if_neg (by omega)]
    exact zeroP_out hl hf hp i hi
  have ho : Heads (L1 ++ L2) mem2 := hh.other fun x hx => ⟨hx, hm2' x.1 (mem_runs.2 ⟨x, hx, Nat.le_refl _, by have := x.2.len_pos; omega⟩) _ (by omega), hm2' x.1 (mem_runs.2 ⟨x, hx, Nat.le_refl _, by have := x.2.len_pos; omega⟩) _ (by omega)⟩
  refine ⟨_, ?_, hl', ?_, ?_, ?_, ?_, ?_⟩
  · exact List.perm_append_comm.trans (runs_mid L1 L2 (f, Hd.large n)).symm
  · intro x hx
    rcases List.mem_append.1 hx with h3 | h3
    · exact ho x (List.mem_append_left _ h3)
    · rcases List.mem_cons.1 h3 with rfl | h4
      · simp only [hm2, upd]
        rw [if_neg (by omega), if_pos trivial, if_pos trivial]
        exact ⟨rfl, rfl⟩
      · exact ho x (List.mem_append_right _ h4)
  · rw [hb]; exact hperm
  · have := (runs_mid L1 L2 (f, Hd.large n)).length_eq
    simp only [List.length_append, List.length_range', Hd.len] at this
    unfold pgsN
    rw [if_neg (by omega)]
    omega
  · intro b hb' i h1 h2
    exact hm2' _ (block_page hl hb' h1 h2) i rfl
  · intro i h1 h2
    rw [hb] at h2
    rw [hm2]
    simp only [upd]
    rw [if_neg (by omega), if_neg (by omega)]
    unfold zeroP
    rw [if_pos (by omega)]
end Go.Proofs.YtjcpclcmnhpgpaaGreatDoor

set_option linter.unusedVariables false
set_option linter.unusedSimpArgs false
namespace Go.Proofs.YtjcpclcmnhpgpaaGreatDoor
open Go.RowKit Go.Shelf
set_option maxHeartbeats 2000000 in
set_option maxRecDepth 100000 in
theorem alloc_large {w : World} {ha a q : Nat} {F : Nat → Prop} {L : HL} {mem : Nat → Nat} (h : HeapIs w ha a F L q mem) (n : Nat) (hn : 28 < n) (hn2 : n ≤ 4000) (hq : ((runs L).length + (n + 65) / 64) * 64 ≤ q) :
    Calls Tryz.prog 98 #[.pointer (some ⟨ha, 0, none⟩), .int .i64 (n : Nat)] w fun e w' => ∃ addr F' L' mem', e = .returned (.tuple #[.int .i64 (addr : Nat), .int .i64 0]) ∧ HeapIs w' ha a F' L' q mem' ∧ Turn w F w' F' ∧ Got L mem addr n L' mem' ∧ addr < 20000000 := by
  obtain ⟨⟨mb, D, k1, rfl⟩, k3, k4⟩ := h
  have hN := Lib.hid (heapNone_at k1)
  have hO := Lib.hid (ofR_big (n := (n : Nat)) ⟨by omega, by omega⟩ (by omega))
  have hP : Hid (pagesR ((n : Nat) : Int) = .tuple #[.int .i64 (((n + 65) / 64 : Nat) : Int), .int .i64 0]) := Lib.hid (by
    simp only [pagesR, pagesN, ofE]; rw [if_pos ⟨by omega, by omega⟩, if_neg (by omega), if_pos ⟨by omega, by omega⟩]; push_cast; rfl)
  have hgot := Lib.hid (fun (f : Nat) (hf : ∀ i, i < (n + 65) / 64 → f + i ∉ runs L) => got_large (mem := mem) k3 k4 hn hn2 hf _ rfl)
  have HP := Lib.hid k1
  have hs := k1.hs
  obtain ⟨nn, hnn⟩ : ∃ nn, (n + 65) / 64 = nn := ⟨_, rfl⟩
  rw [hnn] at hP hgot hq
  have hn63 : nn ≤ 63 := by omega
  have hn1 : 1 ≤ nn := by omega
  clear k1 k3 k4 hnn
  go_enter Tryz.func98, Tryz.ntmps98
  go_wp2_with fail
  refine hN.out.mono ?_
  rintro e w' ⟨rfl, rfl⟩
  go_wp2_with fail
  refine (of_any _ _).mono ?_
  rintro e w1 ⟨rfl, hb1⟩
  rw [hO.out]
  have HP1 := Lib.hid (HP.out.below hb1)
  have T1 := Lib.hid (Turn.below (F := SlabF a mb D) hb1)
  have hs1 := HP1.out.hs
  clear hb1 hs hN
  go_wp2_with fail
  refine (pages_any _ _).mono ?_
  rintro e w2 ⟨rfl, hb2⟩
  rw [hP.out]
  have HP2 := Lib.hid (HP1.out.below hb2)
  have T2 := Lib.hid (T1.out.trans (Turn.below (F := SlabF a mb D) hb2))
  have hs2 := HP2.out.hs
  clear hb2 hs1
  go_wp2_with fail
  refine (grant_at HP2.out.sl nn hn1 hn63 hq).mono ?_
  rintro e w3 ⟨f, D', rfl, hfree, hf2, hS3, hGr⟩
  have t3 := gr_turn (a := a) hGr
  have HP3 := Lib.hid (HP2.out.turn hS3 t3)
  have T3 := Lib.hid (T2.out.trans t3)
  have hfH := Lib.hid hfree
  clear hS3 hGr t3 hs2 hfree
  go_wp2_with fail
  refine (put_at HP3.out f 2 nn n (by simp; omega) (by omega) (by omega) (by omega)).mono ?_
  rintro e w4 ⟨rfl, h4, t4⟩
  have HP4 := Lib.hid h4
  have T4 := Lib.hid (T3.out.trans t4)
  clear h4 t4
  go_wp2
  go_ret2
  obtain ⟨L', hpr, hl', hh', hgt⟩ := hgot.out f hfH.out
  exact ⟨64 * f + 2, _, L', _, by rw [show ((64 * f + 2 : Nat) : Int) = (f : Int) * 64 + 2 by push_cast; omega]; rfl, ⟨⟨mb, D', HP4.out.perm hpr, rfl⟩, hl', hh'⟩, T4.out, hgt, by omega⟩
set_option maxHeartbeats 2000000 in
set_option maxRecDepth 100000 in
theorem alloc_large_full {w : World} {ha a q : Nat} {F : Nat → Prop} {L : HL} {mem : Nat → Nat} (h : HeapIs w ha a F L q mem) (n : Nat) (hn : 28 < n) (hn2 : n ≤ 4000) (hq : q < ((runs L).length + (n + 65) / 64) * 64) :
    Calls Tryz.prog 98 #[.pointer (some ⟨ha, 0, none⟩), .int .i64 (n : Nat)] w fun e w' => e = .returned (.tuple #[.int .i64 0, .int .i64 3]) ∧ Below w.heap.size w w' := by
  obtain ⟨⟨mb, D, k1, rfl⟩, k3, k4⟩ := h
  have hN := Lib.hid (heapNone_at k1)
  have hO := Lib.hid (ofR_big (n := (n : Nat)) ⟨by omega, by omega⟩ (by omega))
  have hP : Hid (pagesR ((n : Nat) : Int) = .tuple #[.int .i64 (((n + 65) / 64 : Nat) : Int), .int .i64 0]) := Lib.hid (by
    simp only [pagesR, pagesN, ofE]; rw [if_pos ⟨by omega, by omega⟩, if_neg (by omega), if_pos ⟨by omega, by omega⟩]; push_cast; rfl)
  have HP := Lib.hid k1
  have hs := k1.hs
  obtain ⟨nn, hnn⟩ : ∃ nn, (n + 65) / 64 = nn := ⟨_, rfl⟩
  rw [hnn] at hP hq
  have hn63 : nn ≤ 63 := by omega
  have hn1 : 1 ≤ nn := by omega
  clear k1 k3 k4 hnn
  go_enter Tryz.func98, Tryz.ntmps98
  go_wp2_with fail
  refine hN.out.mono ?_
  rintro e w' ⟨rfl, rfl⟩
  go_wp2_with fail
  refine (of_any _ _).mono ?_
  rintro e w1 ⟨rfl, hb1⟩
  rw [hO.out]
  have HP1 := Lib.hid (HP.out.below hb1)
  have hs1 := HP1.out.hs
  clear hs hN
  go_wp2_with fail
  refine (pages_any _ _).mono ?_
  rintro e w2 ⟨rfl, hb2⟩
  rw [hP.out]
  have HP2 := Lib.hid (HP1.out.below hb2)
  have hs2 := HP2.out.hs
  have hb3 := Lib.hid (hb1.trans (hb2.mono hb1.size))
  clear hb2 hs1 hb1
  go_wp2_with fail
  refine (grant_full HP2.out.sl nn hn1 (by omega) hq).mono ?_
  rintro e w3 ⟨rfl, d, rfl⟩
  go_wp2
  go_ret2
  exact ⟨rfl, hb3.out.trans ((drewN_below w2 d).mono hb3.out.size)⟩
set_option maxHeartbeats 2000000 in
set_option maxRecDepth 100000 in
theorem alloc_small {w : World} {ha a q : Nat} {F : Nat → Prop} {L : HL} {mem : Nat → Nat} (h : HeapIs w ha a F L q mem) (n : Nat) (hn1 : 1 ≤ n) (hn : n ≤ 28) :
    Calls Tryz.prog 98 #[.pointer (some ⟨ha, 0, none⟩), .int .i64 (n : Nat)] w fun e w' =>
      (∃ addr F' L' mem', e = .returned (.tuple #[.int .i64 (addr : Nat), .int .i64 0]) ∧ HeapIs w' ha a F' L' q mem' ∧ Turn w F w' F' ∧ Got L mem addr n L' mem' ∧ addr < 40000000) ∨
      (e = .returned (.tuple #[.int .i64 0, .int .i64 3]) ∧ Below w.heap.size w w' ∧ q < ((runs L).length + 1) * 64) := by
  obtain ⟨⟨mb, D, k1, rfl⟩, k3, k4⟩ := h
  have hN := Lib.hid (heapNone_at k1)
  obtain ⟨c, hc⟩ : ∃ c, cls n = c := ⟨_, rfl⟩
  have hcf := cls_fits n hn
  rw [hc] at hcf
  have hc8 := hcf.1
  have hO := Lib.hid (ofR_small (n := (n : Nat)) ⟨by omega, by omega⟩ (by omega) hc)
  have hSp := Lib.hid (fun w' (hb : Below w.heap.size w w') => spot_at (k1.below hb) k3 k4 c hc8)
  have hgot := Lib.hid (fun (f : Nat) (hf : f ∉ runs L) => got_page (mem := mem) k3 k4 hf hn hc _ rfl)
  have hgs := Lib.hid (fun (L1 L2 : HL) (p m k : Nat) (e : L = L1 ++ (p, .small c m) :: L2) (hk : k < slotsN c) (hm : m.testBit k = false) => got_slot (mem := mem) (e ▸ k3) (e ▸ k4) hk hm hn hc)
  have HP := Lib.hid k1
  have HLay := Lib.hid k3
  have HHd := Lib.hid k4
  have hs := k1.hs
  have hsl0 : 0 < slotsN c := by
    have : c = 0 ∨ c = 1 ∨ c = 2 ∨ c = 3 ∨ c = 4 ∨ c = 5 ∨ c = 6 ∨ c = 7 := by omega
    rcases this with rfl | rfl | rfl | rfl | rfl | rfl | rfl | rfl <;> decide
  have hn28 := Lib.hid hn
  clear k1 k3 k4 hcf hc hn
  go_enter Tryz.func98, Tryz.ntmps98
  go_wp2_with fail
  refine hN.out.mono ?_
  rintro e w' ⟨rfl, rfl⟩
  go_wp2_with fail
  refine (of_any _ _).mono ?_
  rintro e w1 ⟨rfl, hb1⟩
  rw [hO.out]
  go_wp2_with fail
  refine (hSp.out _ hb1).mono ?_
  rintro e w2 ⟨v, rfl, hv, hb2⟩
  have hbA := Lib.hid (hb1.trans (hb2.mono hb1.size))
  have HP2 := Lib.hid (HP.out.below hbA.out)
  have T2 := Lib.hid (Turn.below (F := SlabF a mb D) hbA.out)
  have hs2 := HP2.out.hs
  clear hb1 hb2 hs hN
  rcases hv with rfl | ⟨L1, L2, p, m, k, hL, hk, hm, rfl⟩
  · go_wp2_with fail
    by_cases hq : ((runs L).length + 1) * 64 ≤ q
    · refine (grant_at HP2.out.sl 1 (by omega) (by omega) hq).mono ?_
      rintro e w3 ⟨f, D', rfl, hfree, hf2, hS3, hGr⟩
      have t3 := gr_turn (a := a) hGr
      have HP3 := Lib.hid (HP2.out.turn hS3 t3)
      have T3 := Lib.hid (T2.out.trans t3)
      have hfH : Hid (f ∉ runs L) := Lib.hid (by simpa using hfree 0 (by omega))
      clear hS3 hGr t3 hs2 hfree
      go_wp2_with fail
      refine (put_at HP3.out f 1 c 0 (by simp) (by omega) (by omega) (by omega)).mono ?_
      rintro e w4 ⟨rfl, h4, t4⟩
      have HP4 := Lib.hid h4
      have T4 := Lib.hid (T3.out.trans t4)
      clear h4 t4
      go_wp2_with fail
      refine (take_at HP4.out f c 0 0 (by simp) hc8 hsl0 (by simp only [upd]; rw [if_neg (by omega), if_pos trivial]) (by simp only [upd]; rw [if_pos trivial])).mono ?_
      rintro e w5 ⟨rfl, h5, t5⟩
      have HP5 := Lib.hid h5
      have T5 := Lib.hid (T4.out.trans t5)
      clear h5 t5
      go_wp2
      go_ret2
      obtain ⟨L', hpr, hl', hh', hgt⟩ := hgot.out f hfH.out
      exact .inl ⟨64 * f + 2, _, L', _, by simp, ⟨⟨mb, D', HP5.out.perm (by simpa using hpr), rfl⟩, hl', hh'⟩, T5.out, hgt, by omega⟩
    · refine (grant_full HP2.out.sl 1 (by omega) (by omega) (by omega)).mono ?_
      rintro e w3 ⟨rfl, d, rfl⟩
      have hqH := Lib.hid hq
      clear hq
      go_wp2
      go_ret2
      exact .inr ⟨rfl, hbA.out.trans ((drewN_below w2 d).mono hbA.out.size), by have := hqH.out; omega⟩
  · have hkH := Lib.hid hk
    have hmH := Lib.hid hm
    have hLH := Lib.hid hL
    have hx : (p, Hd.small c m) ∈ L := by rw [hL]; simp
    have hxp : p ∈ runs L := mem_runs.2 ⟨_, hx, Nat.le_refl _, by simp [Hd.len]⟩
    have hhx := HHd.out _ hx
    simp only at hhx
    have hplow := HP.out.sl.low _ hxp
    have hxpH := Lib.hid hxp
    have hhxH := Lib.hid hhx
    clear hk hm hL hx hxp hhx
    go_wp2_with fail
    refine (take_at HP2.out p c m k hxpH.out hc8 hkH.out hhxH.out.1 hhxH.out.2).mono ?_
    rintro e w5 ⟨rfl, h5, t5⟩
    have HP5 := Lib.hid h5
    have T5 := Lib.hid (T2.out.trans t5)
    clear h5 t5
    go_wp2
    go_ret2
    have hroom := slot_room c k hc8 hkH.out
    have hgg := hgs.out L1 L2 p m k hLH.out hkH.out hmH.out
    have hLL := hLH.out
    subst hLL
    refine .inl ⟨64 * p + 2 + k * sz c, _, _, _, rfl, ⟨⟨mb, D, HP5.out.perm ?_, rfl⟩, hgg.1, hgg.2.1⟩, T5.out, hgg.2.2, by omega⟩
    rw [runs_turn (p := p) (hd := Hd.small c m) (hd' := Hd.small c (m ||| 2 ^ k)) rfl]
end Go.Proofs.YtjcpclcmnhpgpaaGreatDoor

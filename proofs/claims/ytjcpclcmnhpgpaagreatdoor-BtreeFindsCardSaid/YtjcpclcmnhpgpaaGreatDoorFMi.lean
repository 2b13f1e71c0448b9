/-
  The seat's own texts, part i: Spot.
-/
import Derived.Test.YtjcpclcmnhpgpaaGreatDoorFMh

set_option linter.unusedVariables false
set_option linter.unusedSimpArgs false
namespace Go.Proofs.YtjcpclcmnhpgpaaGreatDoor
open Go.RowKit Go.Shelf
attribute [local go_sem] Oper.semAt_some
def hdK : Hd → Nat
  | .small _ _ => 1
  | .large _ => 2
def hdN : Hd → Nat
  | .small c _ => c
  | .large w => (w + 65) / 64
def hdW : Hd → Nat
  | .small _ m => m
  | .large w => w
theorem hdV_eq (h : Hd) : hdV h = .agg #[.int .i64 (hdK h : Nat), .int .i64 (hdN h : Nat), .int .u64 (hdW h : Nat)] := by cases h <;> rfl
structure HdBox (W : World) (B : Nat) (h : Hd) : Prop where
  k : W.cell? ⟨B, 0, none⟩ = some (.int .i64 (hdK h : Nat))
  n : W.cell? ⟨B, 1, none⟩ = some (.int .i64 (hdN h : Nat))
  w : W.cell? ⟨B, 2, none⟩ = some (.int .u64 (hdW h : Nat))
theorem HdBox.kept {W W' : World} {B : Nat} {h : Hd} {row : Option Nat} (hb : HdBox W B h) (hg : W.grownBy W' row) (hr : ∀ r, row = some r → ∃ o : Obj, W.heap[r]? = some o ∧ o.isCells = false) : HdBox W' B h :=
  ⟨cell_kept hb.k hg hr, cell_kept hb.n hg hr, cell_kept hb.w hg hr⟩
theorem hdBox_new (W : World) (h : Hd) (t : TypeId) : HdBox (W.alloc (.cells #[.int .i64 (hdK h : Nat), .int .i64 (hdN h : Nat), .int .u64 (hdW h : Nat)] t)) W.heap.size h := by
  refine ⟨?_, ?_, ?_⟩ <;> go_simp
def SpotR (L : HL) (c : Nat) (v : Value) : Prop :=
  (v = .tuple #[.int .i64 0, .int .i64 0, .bool false]) ∨
  ∃ L1 L2 p m k, L = L1 ++ (p, .small c m) :: L2 ∧ k < slotsN c ∧ m.testBit k = false ∧ v = .tuple #[.int .i64 (p : Nat), .int .i64 (k : Nat), .bool true]
def Out3 (B : Nat) (u v x : Value) (W : World) : Prop := W.cell? ⟨B + 1, 0, none⟩ = some u ∧ W.cell? ⟨B + 1 + 1, 0, none⟩ = some v ∧ W.cell? ⟨B + 1 + 1 + 1, 0, none⟩ = some x ∧ W.frozen? ⟨B + 1, 0, none⟩ = false ∧ W.frozen? ⟨B + 1 + 1, 0, none⟩ = false ∧ W.frozen? ⟨B + 1 + 1 + 1, 0, none⟩ = false
theorem Out3.kept {B : Nat} {u v x : Value} {W W' : World} {row : Option Nat} (h : Out3 B u v x W) (hg : W.grownBy W' row) (hr : ∀ r, row = some r → ∃ o : Obj, W.heap[r]? = some o ∧ o.isCells = false) : Out3 B u v x W' := by
  obtain ⟨h1, h2, h3, f1, f2, f3⟩ := h
  exact ⟨cell_kept h1 hg hr, cell_kept h2 hg hr, cell_kept h3 hg hr, (frozen_kept h1 hg hr).trans f1, (frozen_kept h2 hg hr).trans f2, (frozen_kept h3 hg hr).trans f3⟩
theorem Out3.below {B : Nat} {u v x : Value} {W W' : World} (h : Out3 B u v x W) (hb : Below W.heap.size W W') : Out3 B u v x W' := by
  obtain ⟨h1, h2, h3, f1, f2, f3⟩ := h
  exact ⟨(hb.cell (p := ⟨B + 1, 0, none⟩) (cell_lt h1)).trans h1, (hb.cell (p := ⟨B + 1 + 1, 0, none⟩) (cell_lt h2)).trans h2, (hb.cell (p := ⟨B + 1 + 1 + 1, 0, none⟩) (cell_lt h3)).trans h3, (hb.frozen (p := ⟨B + 1, 0, none⟩) (cell_lt h1)).trans f1, (hb.frozen (p := ⟨B + 1 + 1, 0, none⟩) (cell_lt h2)).trans f2, (hb.frozen (p := ⟨B + 1 + 1 + 1, 0, none⟩) (cell_lt h3)).trans f3⟩
theorem Out3.set {B : Nat} {u v x : Value} {W : World} (h : Out3 B u v x W) (u' v' x' : Value) : Out3 B u' v' x' (((W.setCell ⟨B + 1, 0, none⟩ u').setCell ⟨B + 1 + 1, 0, none⟩ v').setCell ⟨B + 1 + 1 + 1, 0, none⟩ x') := by
  obtain ⟨h1, h2, h3, f1, f2, f3⟩ := h
  refine ⟨?_, ?_, ?_, ?_, ?_, ?_⟩
  · exact (World.cell?_setCell_other _ _ _ _ (by simp)).trans ((World.cell?_setCell_other _ _ _ _ (by simp)).trans (World.cell?_setCell_same' _ _ _ (by rw [h1]; rfl)))
  · exact (World.cell?_setCell_other _ _ _ _ (by simp)).trans (World.cell?_setCell_same' _ _ _ (by rw [World.cell?_setCell_other _ _ _ _ (by simp), h2]; rfl))
  · exact World.cell?_setCell_same' _ _ _ (by rw [World.cell?_setCell_other _ _ _ _ (by simp), World.cell?_setCell_other _ _ _ _ (by simp), h3]; rfl)
  · simp [f1]
  · simp [f2]
  · simp [f3]
theorem keepsOthers_below {W W' : World} (h : Below W.heap.size W W') : KeepsOthers W W' := ⟨h.size, fun k o hk _ => (h.block k (Array.getElem?_eq_some_iff.1 hk).1).trans hk⟩
set_option maxHeartbeats 4000000 in
set_option maxRecDepth 100000 in
theorem spot_at {w : World} {ha a mb q : Nat} {D : DW} {L : HL} {mem : Nat → Nat} (h : HeapAt w ha a mb D (runs L) q mem) (hl : Lay L) (hh : Heads L mem) (c : Nat) (hc : c < 8) :
    Calls Tryz.prog 129 #[.pointer (some ⟨ha, 0, none⟩), .int .i64 (c : Nat)] w fun e w' => ∃ v, e = .returned v ∧ SpotR L c v ∧ Below w.heap.size w w' := by
  refine (callsIn_wide (n := 9)).1 ?_
  have hsl : slotsR ((c : Nat) : Int) = .tuple #[.int .i64 (slotsN c : Nat), .int .i64 0] := if_pos ⟨by omega, by omega⟩
  have hS := Lib.hid (fun w => (callsIn_wide (n := 8)).2 (slots_any (c : Nat) w))
  have hHd := Lib.hid (fun w => (callsIn_wide (n := 8)).2 (heads_calls ha w))
  have HH := Lib.hid h
  have Hl := Lib.hid hl
  have Hh := Lib.hid hh
  clear h hl hh
  refine callsIn_of_wp_marks Tryz.func129 rfl trivial ?_ rfl
  simp only [Tryz.ntmps129, List.size_toArray, List.length_cons, List.length_nil, Nat.reduceAdd, Nat.reduceSub, Array.replicate_succ, Array.replicate_zero, List.push_toArray, List.append_toArray, List.nil_append, List.cons_append]
  gi_wp2_with (refine ⟨trivial, ?_⟩; fail)
  have ho0 : Out3 w.heap.size (.int .i64 0) (.int .i64 0) (.bool false) ((((w.alloc (Obj.cells #[Value.int IntKind.i64 (c : Nat)] 3)).alloc (Obj.cells #[Value.int IntKind.i64 0] 3)).alloc (Obj.cells #[Value.int IntKind.i64 0] 3)).alloc (Obj.cells #[Value.bool false] 4)) := by
    refine ⟨?_, ?_, ?_, ?_, ?_, ?_⟩ <;> go_simp
  have hn0 : ((((w.alloc (Obj.cells #[Value.int IntKind.i64 (c : Nat)] 3)).alloc (Obj.cells #[Value.int IntKind.i64 0] 3)).alloc (Obj.cells #[Value.int IntKind.i64 0] 3)).alloc (Obj.cells #[Value.bool false] 4)).cell? ⟨w.heap.size, 0, none⟩ = some (.int .i64 (c : Nat)) := by go_simp
  have hb0 : Below w.heap.size w ((((w.alloc (Obj.cells #[Value.int IntKind.i64 (c : Nat)] 3)).alloc (Obj.cells #[Value.int IntKind.i64 0] 3)).alloc (Obj.cells #[Value.int IntKind.i64 0] 3)).alloc (Obj.cells #[Value.bool false] 4)) := ((((Below.refl _ w).alloc (Nat.le_refl _) _).alloc (by simp) _).alloc (by simp; omega) _).alloc (by simp; omega) _
  have hz0 : ((((w.alloc (Obj.cells #[Value.int IntKind.i64 (c : Nat)] 3)).alloc (Obj.cells #[Value.int IntKind.i64 0] 3)).alloc (Obj.cells #[Value.int IntKind.i64 0] 3)).alloc (Obj.cells #[Value.bool false] 4)).heap.size = w.heap.size + 4 := by simp
  generalize ((((w.alloc (Obj.cells #[Value.int IntKind.i64 (c : Nat)] 3)).alloc (Obj.cells #[Value.int IntKind.i64 0] 3)).alloc (Obj.cells #[Value.int IntKind.i64 0] 3)).alloc (Obj.cells #[Value.bool false] 4)) = W0 at *
  refine ⟨trivial, ?_⟩
  refine (hS.out _).mono ?_
  rintro e w1 ⟨rfl, hb1⟩
  rw [hsl]
  have hn1 := (hb1.cell (p := ⟨w.heap.size, 0, none⟩) (cell_lt hn0)).trans hn0
  have ho1 := ho0.below hb1
  have hz1 := hb1.size
  have hbw := hb0.trans (hb1.mono hb0.size)
  clear hb1 hb0 ho0 hn0
  gi_wp2_with (refine ⟨trivial, ?_⟩; fail)
  refine ⟨trivial, ?_⟩
  refine (hHd.out _).mono ?_
  rintro e w2 ⟨rfl, rfl⟩
  gi_wp2_with (refine ⟨trivial, ?_⟩; fail)
  obtain ⟨W2, hW2⟩ : ∃ W2, W2 = (w1.alloc (Obj.cells #[Value.int IntKind.i64 (slotsN c : Nat)] 3)).alloc (Obj.cells #[Value.pointer (some { block := ha, off := 0 })] 78) := ⟨_, rfl⟩
  have hb2 : Below w1.heap.size w1 W2 := hW2 ▸ ((Below.refl _ w1).alloc (Nat.le_refl _) _).alloc (by simp) _
  have hn2 := (hb2.cell (p := ⟨w.heap.size, 0, none⟩) (cell_lt hn1)).trans hn1
  have ho2 := ho1.below hb2
  have hs2 : W2.cell? ⟨w1.heap.size, 0, none⟩ = some (.int .i64 (slotsN c : Nat)) := by rw [hW2]; go_simp
  have hx2 : W2.cell? ⟨w1.heap.size + 1, 0, none⟩ = some (.pointer (some ⟨ha, 0, none⟩)) := by rw [hW2]; go_simp
  have hz2 : W2.heap.size = w1.heap.size + 2 := by rw [hW2]; simp
  have hb2w := hbw.trans (hb2.mono (by omega))
  rw [← hW2]
  clear hW2 hb2 hn1 ho1 hbw
  have HH2 := Lib.hid (HH.out.below hb2w)
  refine wpIn_rangeFunc_ownH rfl (by omega) (gf := 110) (lb := #[.pointer (some ⟨w1.heap.size + 1, 0, none⟩)]) rfl trivial (enters_of Tryz.func110 (by kernel_rfl) rfl)
    (heads_stops HH2.out Hl.out Hh.out hx2 (fun _ => False) (fun _ h => h.elim) (fun h => h) (fun h => h) (fun h => h) (fun _ h => h.elim))
    (fun h k => h.trans k) (fun W l o o' _ hl h1 h2 => KB.putObj o' hl h1 h2) (Below.refl _ _) (fun _ => rfl)
    (fun pre W => Below W2.heap.size W2 W)
    (fun cd pre W => cd = .ret ∧ (∃ p0 p m k, pre.map (fun y => y.1) = p0 ++ [(p, Hd.small c m)] ∧ k < slotsN c ∧ m.testBit k = false ∧ Out3 w.heap.size (.int .i64 (p : Nat)) (.int .i64 (k : Nat)) (.bool true) W) ∧ Below w.heap.size w W)
    (fun s A B row hs hg hr => ownFrom_below (Nat.le_refl _) (by omega) s A B row hs hg hr)
    (fun cd s A B row hs hg hr => by
      obtain ⟨h1, ⟨p0, p, m, k, h2, h3, h4, h5⟩, h6⟩ := hs
      exact ⟨h1, ⟨p0, p, m, k, h2, h3, h4, h5.kept hg (fun r e => (hr r e).2)⟩, ownFrom_below (Nat.le_refl _) (by omega) s A B row h6 hg hr⟩)
    (Below.refl _ _)
    (fun x a' W => ∃ B, W2.heap.size ≤ B ∧ HdBox W B x.1.2 ∧ a' = { tmps := #[Value.pointer (some { block := ha, off := 0 }), Value.int IntKind.i64 (c : Nat), undef, Value.pointer (some { block := w.heap.size, off := 0 }), Value.pointer (some { block := w.heap.size + 1, off := 0 }), Value.pointer (some { block := w.heap.size + 1 + 1, off := 0 }), Value.pointer (some { block := w.heap.size + 1 + 1 + 1, off := 0 }), Value.pointer (some { block := w1.heap.size, off := 0 }), Value.int IntKind.i64 0, Value.int IntKind.i64 (x.1.1 : Nat), Value.pointer (some { block := B, off := 0 }), undef, Value.tuple #[Value.int IntKind.i64 (slotsN c : Nat), Value.int IntKind.i64 0], Value.int IntKind.i64 (c : Nat), Value.tuple #[Value.int IntKind.i64 (slotsN c : Nat), Value.int IntKind.i64 0], Value.int IntKind.i64 (slotsN c : Nat), Value.int IntKind.i64 0, Value.pointer (some { block := ha, off := 0 }), Value.func (Fn.func 110) #[] #[Value.pointer (some { block := w1.heap.size + 1, off := 0 })], Value.int IntKind.i64 (x.1.1 : Nat), hdV x.1.2, undef, undef, undef, undef, undef, undef, undef, undef, undef, undef, undef, undef, undef, undef, undef, undef, undef], defers := [] })
    (fun x a' s A B row hs hg hr => by
      obtain ⟨B', h1, h2, h3⟩ := hs
      exact ⟨B', h1, h2.kept hg (fun r e => (hr r e).2), h3⟩)
    ?assign ?body ?done ?stop
  case assign =>
    rintro l pre ⟨⟨p, hd⟩, hxm⟩ W K hi hK
    dsimp only at hK ⊢
    have hb : Below W.heap.size W (W.alloc (Obj.cells #[Value.int IntKind.i64 (hdK hd : Nat), Value.int IntKind.i64 (hdN hd : Nat), Value.int IntKind.u64 (hdW hd : Nat)] 153)) := (Below.refl _ W).alloc (Nat.le_refl _) _
    have hK2 := hK _ (W.alloc (Obj.cells #[Value.int IntKind.i64 (hdK hd : Nat), Value.int IntKind.i64 (hdN hd : Nat), Value.int IntKind.u64 (hdW hd : Nat)] 153)) ((keepsOthers_below hb).from _) (KB.below hb) (hi.trans (hb.mono hi.size)) ⟨W.heap.size, hi.size, hdBox_new _ _ _, rfl⟩
    have hK2H := Lib.hid hK2
    clear hK hK2 hb hi
    rw [hdV_eq] at hK2H ⊢
    gi_wp2
    exact hK2H.out
  case body =>
    rintro l pre ⟨⟨p, hd⟩, hxm⟩ a' W hl ⟨r, hr⟩ hi ⟨B, hBz, hbx, rfl⟩ hlen
    dsimp only at hbx ⊢
    have hn3 := (hi.cell (p := ⟨w.heap.size, 0, none⟩) (cell_lt hn2)).trans hn2
    have ho3 := ho2.below hi
    have hs3 := (hi.cell (p := ⟨w1.heap.size, 0, none⟩) (cell_lt hs2)).trans hs2
    have hok := Hl.out.ok _ hxm
    have hk := hbx.k
    have hn := hbx.n
    have hw := hbx.w
    have hbw := hb2w.trans (hi.mono hb2w.size)
    have hii := Lib.hid hi
    have hTw := (HH.out.below hbw).tab
    have hTlt : 1 < W.heap.size := by have := HH.out.tabF a (.inl rfl); have h2 := HH.out.sl.lt (.inl rfl); have := hbw.size; omega
    have hbwH := Lib.hid hbw
    have hTH := Lib.hid hTw
    clear hbx hi hbw hTw
    cases hd with
    | large ww =>
      simp only [hdK, hdN, hdW] at hk hn hw
      have d1 : ((2 : Int) != 1) = true := by decide
      clear hok
      gi_wp2
      exact ⟨KeepsFrom.refl _ _, KB.refl _ _, hii.out⟩
    | small cc m =>
      simp only [hdK, hdN, hdW] at hk hn hw
      obtain ⟨hc8, hm0, hmS⟩ := hok
      have hm64 : m < 18446744073709551616 := Nat.lt_trans hmS (pow_lt64 (by have := slots_small cc; omega))
      have d1 : ((1 : Int) != 1) = false := by decide
      by_cases hcc : cc = c
      · subst hcc
        have d2 : (((cc : Nat) : Int) != (cc : Nat)) = false := by simp
        have hF := Lib.hid (CallsIn.inRound l ((callsIn_wide (n := 6)).2 (free_at m (slotsN cc) hm64 (by have := slots_small cc; omega) W hTH.out hTlt)))
        clear hm0 hmS hm64
        gi_wp2_with (refine ⟨trivial, ?_⟩; fail)
        refine ⟨trivial, ?_⟩
        refine hF.out.mono ?_
        rintro e W' ⟨r', rfl, hr', hW'⟩
        have hbW : Below W.heap.size W W' := hW' ▸ (Below.refl _ W).alloc (Nat.le_refl _) _
        clear hW'
        have ho4 := ho3.below hbW
        have hi4 := Lib.hid (hii.out.trans (hbW.mono hii.out.size))
        have hb4 := Lib.hid (hbwH.out.trans (hbW.mono hbwH.out.size))
        have hk4 := Lib.hid ((keepsOthers_below hbW).from W2.heap.size)
        have hkb4 := Lib.hid (KB.below (Cs := fun _ => False) hbW)
        have hsz4 : w.heap.size + 4 ≤ W'.heap.size := by have := hb4.out.size; have := hi4.out.size; omega
        clear hbW ho3 hn3 hs3 hk hn hw hF
        rcases hr' with ⟨rfl, _⟩ | ⟨k, hkn, rfl, hkm⟩
        · have d3 : decide ((0 : Int) ≤ -1) = false := by decide
          gi_wp2
          exact ⟨hk4.out, hkb4.out, hi4.out⟩
        · have d3 : decide ((0 : Int) ≤ (k : Int)) = true := by simp
          have hkmH := Lib.hid hkm
          have hknH := Lib.hid hkn
          clear hkm hkn
          obtain ⟨q1, q2, q3, q4, q5, q6⟩ := ho4
          have hset := Lib.hid (Out3.set ⟨q1, q2, q3, q4, q5, q6⟩ (.int .i64 (p : Nat)) (.int .i64 (k : Nat)) (.bool true))
          gi_wp2
          refine ⟨?_, rfl, ⟨pre.map (fun y => y.1), p, m, k, by rw [List.map_append]; rfl, hknH.out, hkmH.out, hset.out⟩, ?_⟩
          · exact hk4.out.trans ((((KeepsOthers.setCell _ _ _).trans (KeepsOthers.setCell _ _ _)).trans (KeepsOthers.setCell _ _ _)).from _)
          · exact ((hb4.out.setCell (p := ⟨w.heap.size + 1, 0, none⟩) (by simp) _).setCell (p := ⟨w.heap.size + 1 + 1, 0, none⟩) (by simp; omega) _).setCell (p := ⟨w.heap.size + 1 + 1 + 1, 0, none⟩) (by simp; omega) _
      · have d2 : (((cc : Nat) : Int) != (c : Nat)) = true := by simp; omega
        clear hm0 hmS hcc
        gi_wp2
        exact ⟨KeepsFrom.refl _ _, KB.refl _ _, hii.out⟩
  case done =>
    rintro D' xs W hD hxs hi hK
    have ho3 := ho2.below hi
    have hbw := Lib.hid (hb2w.trans (hi.mono hb2w.size))
    obtain ⟨q1, q2, q3, q4, q5, q6⟩ := ho3
    have hset := Out3.set ⟨q1, q2, q3, q4, q5, q6⟩ (.int .i64 0) (.int .i64 0) (.bool false)
    have hK1 := (KeepsOthers.setCell W ⟨w.heap.size + 1, 0, none⟩ (.int .i64 0)).same D' _ hK rfl
    have hK2 := (KeepsOthers.setCell (W.setCell ⟨w.heap.size + 1, 0, none⟩ (.int .i64 0)) ⟨w.heap.size + 1 + 1, 0, none⟩ (.int .i64 0)).same D' _ hK1 rfl
    have hK3 := (KeepsOthers.setCell ((W.setCell ⟨w.heap.size + 1, 0, none⟩ (.int .i64 0)).setCell ⟨w.heap.size + 1 + 1, 0, none⟩ (.int .i64 0)) ⟨w.heap.size + 1 + 1 + 1, 0, none⟩ (.bool false)).same D' _ hK2 rfl
    have hset2 := hset.kept (grownBy_putObj' _ D' (.deferred none)) (fun r e => by cases e; exact ⟨_, hK3, rfl⟩)
    obtain ⟨u1, u2, u3, _⟩ := hset2
    clear hxs hi hset hK1 hK2
    gi_wp2
    refine ⟨by simp, .inl ⟨_, _, rfl, run_takeDeferred hK3, ?_⟩⟩
    refine ⟨.tuple #[.int .i64 0, .int .i64 0, .bool false], ?_, ?_⟩
    · simp [results, Tryz.f129, go_sem, u1, u2, u3]
    · exact ⟨_, rfl, .inl rfl, (((hbw.out.setCell (p := ⟨w.heap.size + 1, 0, none⟩) (by simp) _).setCell (p := ⟨w.heap.size + 1 + 1, 0, none⟩) (by simp; omega) _).setCell (p := ⟨w.heap.size + 1 + 1 + 1, 0, none⟩) (by simp; omega) _).trans (belowK_b (w := w) (Nat.le_refl _) _ D' _ _ (by omega) hK3 rfl rfl)⟩
  case stop =>
    rintro D' cd pre W hD ⟨t, ht⟩ ⟨rfl, ⟨p0, p, m, k, hpre, hk, hm, ho⟩, hb⟩ hK
    have hbH := Lib.hid hb
    have hset2 := ho.kept (grownBy_putObj' _ D' (.deferred none)) (fun r e => by cases e; exact ⟨_, hK, rfl⟩)
    obtain ⟨u1, u2, u3, _⟩ := hset2
    have hfin : Hid (SpotR L c (.tuple #[.int .i64 (p : Nat), .int .i64 (k : Nat), .bool true])) := Lib.hid (.inr ⟨p0, t, p, m, k, by rw [ht, hpre, List.append_assoc]; rfl, hk, hm, rfl⟩)
    clear hb ho ht hpre hk hm
    gi_wp2
    refine ⟨by simp, .inl ⟨_, _, rfl, run_takeDeferred hK, ?_⟩⟩
    refine ⟨.tuple #[.int .i64 (p : Nat), .int .i64 (k : Nat), .bool true], ?_, ?_⟩
    · simp [results, Tryz.f129, go_sem, u1, u2, u3]
    · exact ⟨_, rfl, hfin.out, hbH.out.trans (belowK_b (w := w) (Nat.le_refl _) _ D' _ _ (by omega) hK rfl rfl)⟩
end Go.Proofs.YtjcpclcmnhpgpaaGreatDoor

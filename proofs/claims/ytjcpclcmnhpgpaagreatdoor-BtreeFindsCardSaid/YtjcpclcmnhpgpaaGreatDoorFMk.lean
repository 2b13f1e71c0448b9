/-
  The seat's own texts, part k: HeadsE, Audit0, HeapNew, Handle, Handle2, Range.
-/
import Derived.Test.YtjcpclcmnhpgpaaGreatDoorFMj

set_option linter.unusedVariables false
set_option linter.unusedSimpArgs false
namespace Go.Proofs.YtjcpclcmnhpgpaaGreatDoor
open Go.RowKit Go.Shelf
attribute [local go_sem] Oper.semAt_some
structure KE (E : World → Nat → Prop) (A B : World) : Prop where
  kb : KB (E A) A B
  grow : ∀ k, E B k → E A k ∨ A.heap.size ≤ k
theorem KE.trans {E : World → Nat → Prop} {A B C : World} (h : KE E A B) (k : KE E B C) : KE E A C := by
  refine ⟨⟨Nat.le_trans h.kb.size k.kb.size, fun i o hi ho hn => ?_⟩, fun i hi => ?_⟩
  · have h1 := h.kb.same i o hi ho hn
    refine k.kb.same i o h1 ho (fun hB => ?_)
    rcases h.grow i hB with h2 | h2
    · exact hn h2
    · have := (Array.getElem?_eq_some_iff.1 hi).1; omega
  · rcases k.grow i hi with h1 | h1
    · exact h.grow i h1
    · exact .inr (Nat.le_trans h.kb.size h1)
theorem KE.below {E : World → Nat → Prop} {A B : World} (h : Below A.heap.size A B) (hE : ∀ k, E B k → E A k) : KE E A B := ⟨KB.below h, fun k hk => .inl (hE k hk)⟩
structure EOk (E : World → Nat → Prop) (n0 a mb ha B : Nat) (D : DW) (A : Option Addr) (W : World) : Prop where
  size : n0 ≤ W.heap.size
  ok : ∀ k, E W k → ¬ SlabF a mb D k ∧ k ≠ ha ∧ k ≠ 1 ∧ k ≠ B ∧ ∀ r, A = some r → k ≠ r.block
theorem EOk.below {E : World → Nat → Prop} {n0 a mb ha B : Nat} {D : DW} {A : Option Addr} {X Y : World} (h : EOk E n0 a mb ha B D A X) (hE : ∀ X Y : World, n0 ≤ X.heap.size → Below X.heap.size X Y → ∀ k, E Y k → E X k) (hb : Below X.heap.size X Y) : EOk E n0 a mb ha B D A Y :=
  ⟨Nat.le_trans h.size hb.size, fun k hk => h.ok k (hE X Y h.size hb k hk)⟩
end Go.Proofs.YtjcpclcmnhpgpaaGreatDoor

set_option linter.unusedVariables false
set_option linter.unusedSimpArgs false
namespace Go.Proofs.YtjcpclcmnhpgpaaGreatDoor
open Go.RowKit Go.Shelf
attribute [local go_sem] Oper.semAt_some wide_fn
theorem lay_nil : Lay ([] : HL) := ⟨List.Pairwise.nil, by simp⟩
theorem heads_nil (mem : Nat → Nat) : Heads ([] : HL) mem := by intro x hx; simp at hx
theorem pages_none {w : World} {a mb q : Nat} {D : DW} {mem : Nat → Nat} (h : SlabAt w a mb D [] q mem) :
    Calls Tryz.prog 95 #[.pointer (some ⟨a, 0, none⟩)] w fun e w' => e = .returned (.slice none 0 0) ∧ Below w.heap.size w w' :=
  (pages_at h).mono fun e w' ⟨v, ss, he, hp, hrow, hn, hb⟩ => by
    obtain ⟨h1, h2⟩ := pages_sorted h List.Pairwise.nil hp
    have : ss = [] := List.eq_nil_of_length_eq_zero h1
    rw [hn.2 this] at he
    exact ⟨he, hb⟩
set_option maxHeartbeats 4000000 in
set_option maxRecDepth 100000 in
theorem audit_empty {w : World} {ha a q : Nat} {F : Nat → Prop} {mem : Nat → Nat} (h : HeapIs w ha a F [] q mem) :
    Calls Tryz.prog 64 #[.pointer (some ⟨ha, 0, none⟩)] w fun e w' => e = .returned (.int .i64 0) ∧ Below w.heap.size w w' := by
  obtain ⟨⟨mb, D, k1, rfl⟩, k3, k4⟩ := h
  refine (callsIn_wide (n := 9)).1 ?_
  have hN := Lib.hid (fun w' (hb : Below w.heap.size w w') => (callsIn_wide (n := 8)).2 (heapNone_at (k1.below hb)))
  have hHd := Lib.hid (fun w => (callsIn_wide (n := 8)).2 (heads_calls ha w))
  have HH := Lib.hid k1
  clear k1 k3 k4
  refine callsIn_of_wp_marks Tryz.func64 rfl trivial ?_ rfl
  simp only [Tryz.ntmps64, List.size_toArray, List.length_cons, List.length_nil, Nat.reduceAdd, Nat.reduceSub, Array.replicate_succ, Array.replicate_zero, List.push_toArray, List.append_toArray, List.nil_append, List.cons_append]
  gi_wp2_with fail
  have hb1 : Below w.heap.size w ((w.alloc (Obj.cells #[Value.pointer (some { block := ha, off := 0 })] 78)).alloc (Obj.cells #[Value.int IntKind.i64 0] 26)) := ((Below.refl _ w).alloc (Nat.le_refl _) _).alloc (by simp) _
  refine (hN.out _ hb1).mono ?_
  rintro e w' ⟨rfl, rfl⟩
  gi_wp2_with fail
  have hb2 : Below w.heap.size w (((w.alloc (Obj.cells #[Value.pointer (some { block := ha, off := 0 })] 78)).alloc (Obj.cells #[Value.int IntKind.i64 0] 26)).alloc (Obj.cells #[Value.int IntKind.i64 0] 3)) := hb1.alloc (by simp; omega) _
  have hc0 : (((w.alloc (Obj.cells #[Value.pointer (some { block := ha, off := 0 })] 78)).alloc (Obj.cells #[Value.int IntKind.i64 0] 26)).alloc (Obj.cells #[Value.int IntKind.i64 0] 3)).cell? ⟨w.heap.size, 0, none⟩ = some (.pointer (some ⟨ha, 0, none⟩)) := by go_simp
  have hc1 : (((w.alloc (Obj.cells #[Value.pointer (some { block := ha, off := 0 })] 78)).alloc (Obj.cells #[Value.int IntKind.i64 0] 26)).alloc (Obj.cells #[Value.int IntKind.i64 0] 3)).cell? ⟨w.heap.size + 1, 0, none⟩ = some (.int .i64 0) := by go_simp
  have hf1 : (((w.alloc (Obj.cells #[Value.pointer (some { block := ha, off := 0 })] 78)).alloc (Obj.cells #[Value.int IntKind.i64 0] 26)).alloc (Obj.cells #[Value.int IntKind.i64 0] 3)).frozen? ⟨w.heap.size + 1, 0, none⟩ = false := by go_simp
  have hc2 : (((w.alloc (Obj.cells #[Value.pointer (some { block := ha, off := 0 })] 78)).alloc (Obj.cells #[Value.int IntKind.i64 0] 26)).alloc (Obj.cells #[Value.int IntKind.i64 0] 3)).cell? ⟨w.heap.size + 1 + 1, 0, none⟩ = some (.int .i64 0) := by go_simp
  generalize (((w.alloc (Obj.cells #[Value.pointer (some { block := ha, off := 0 })] 78)).alloc (Obj.cells #[Value.int IntKind.i64 0] 26)).alloc (Obj.cells #[Value.int IntKind.i64 0] 3)) = W0 at *
  refine (hHd.out _).mono ?_
  rintro e w2 ⟨rfl, hW2⟩
  have hbe : Below W0.heap.size W0 w2 := by rw [hW2]; exact (Below.refl _ _).alloc (Nat.le_refl _) _
  have hx2 : w2.cell? ⟨W0.heap.size, 0, none⟩ = some (.pointer (some ⟨ha, 0, none⟩)) := by rw [hW2]; go_simp
  have hbw := hb2.trans (hbe.mono hb2.size)
  have hd0 := (hbe.cell (p := ⟨w.heap.size, 0, none⟩) (cell_lt hc0)).trans hc0
  have hd1 := (hbe.cell (p := ⟨w.heap.size + 1, 0, none⟩) (cell_lt hc1)).trans hc1
  have hg1 := (hbe.frozen (p := ⟨w.heap.size + 1, 0, none⟩) (cell_lt hc1)).trans hf1
  have hd2 := (hbe.cell (p := ⟨w.heap.size + 1 + 1, 0, none⟩) (cell_lt hc2)).trans hc2
  clear hW2 hbe hc0 hc1 hf1 hc2 hb1 hb2 hN
  gi_wp2_with fail
  have HH2 := Lib.hid (HH.out.below hbw)
  refine wpIn_rangeFunc_ownH (α := {z : Nat × Hd // z ∈ ([] : HL)}) rfl (by omega) (gf := 110) (lb := #[.pointer (some ⟨W0.heap.size, 0, none⟩)]) rfl trivial (enters_of Tryz.func110 (by kernel_rfl) rfl)
    (heads_stops HH2.out lay_nil (heads_nil _) hx2 (fun _ => False) (fun _ h => h.elim) (fun h => h) (fun h => h) (fun h => h) (fun _ h => h.elim))
    (fun h k => h.trans k) (fun W l o o' _ hl h1 h2 => KB.putObj o' hl h1 h2) (Below.refl _ _) (fun _ => rfl)
    (fun pre W => Below w2.heap.size w2 W)
    (fun cd pre W => False)
    (fun s A B row hs hg hr => ownFrom_below (Nat.le_refl _) (by omega) s A B row hs hg hr)
    (fun _ _ _ _ _ hs _ _ => hs)
    (Below.refl _ _)
    (fun x a' W => False)
    (fun _ _ _ _ _ _ hs _ _ => hs)
    ?assign ?body ?done ?stop
  case assign =>
    rintro l pre ⟨x, hx⟩
    simp at hx
  case body =>
    rintro l pre ⟨x, hx⟩
    simp at hx
  case stop =>
    rintro D' cd pre W hD hSp hf
    exact hf.elim
  case done =>
    rintro D' xs W hD hxs hi hK
    have he0 := (hi.cell (p := ⟨w.heap.size, 0, none⟩) (cell_lt hd0)).trans hd0
    have he1 := (hi.cell (p := ⟨w.heap.size + 1, 0, none⟩) (cell_lt hd1)).trans hd1
    have he2 := (hi.cell (p := ⟨w.heap.size + 1 + 1, 0, none⟩) (cell_lt hd2)).trans hd2
    have hh1 := (hi.frozen (p := ⟨w.heap.size + 1, 0, none⟩) (cell_lt hd1)).trans hg1
    have HW := Lib.hid (HH2.out.kb (Cs := fun _ => False) (KB.below hi) (fun _ h => h.elim) (fun h => h) (fun h => h))
    have hs := HW.out.hs
    have x0 := fun X : Bel W => X.cell he0
    have x2 := fun X : Bel W => X.cell he2
    have x3 := fun X : Bel W => X.cell hs
    have hP := Lib.hid (fun X : Bel W => (callsIn_wide (n := 8)).2 (pages_none (HW.out.below X.h).sl))
    have hmo : Tryz.prog.follows .mixedOrders = true := by kernel_rfl
    have hbW := Lib.hid (hbw.trans (hi.mono hbw.size))
    have hKl := (Array.getElem?_eq_some_iff.1 hK).1
    clear hxs hi
    gi_wp2
    refine wpIn_region_calm (by kernel_rfl) hmo (by kernel_rfl) ?_
    repeat (gi_big_quiet_step ((gi_at_call 95; exact callsIn_calm (hP.out _))))
    refine wpQuietIn_nil ?_
    rintro _ ⟨X, rfl⟩
    have hj1 := X.cell he1
    have hk1 : X.W.frozen? ⟨w.heap.size + 1, 0, none⟩ = false := (X.frozen (p := ⟨w.heap.size + 1, 0, none⟩) (cell_lt he1)).trans hh1
    have hKX := (X.block hKl).trans hK
    have hbX := Lib.hid (hbW.out.trans (X.h.mono hbW.out.size))
    generalize X.W = W5 at *
    clear x0 x2 x3 he0 he1 he2 hh1 hs hK
    have hset : ((W5.setCell ⟨w.heap.size + 1, 0, none⟩ (.int .i64 0)).putObj D' (.deferred none)).cell? ⟨w.heap.size + 1, 0, none⟩ = some (.int .i64 0) := by
      have h1 : (W5.setCell ⟨w.heap.size + 1, 0, none⟩ (.int .i64 0)).cell? ⟨w.heap.size + 1, 0, none⟩ = some (.int .i64 0) := World.cell?_setCell_same' _ _ _ (by rw [hj1]; rfl)
      exact cell_kept h1 (grownBy_putObj' _ D' (.deferred none)) (fun r e => by cases e; exact ⟨_, (KeepsOthers.setCell W5 ⟨w.heap.size + 1, 0, none⟩ (.int .i64 0)).same D' _ hKX rfl, rfl⟩)
    have hK1 := (KeepsOthers.setCell W5 ⟨w.heap.size + 1, 0, none⟩ (.int .i64 0)).same D' _ hKX rfl
    gi_wp2
    refine ⟨by simp, .inl ⟨_, _, rfl, run_takeDeferred hK1, ?_⟩⟩
    refine ⟨.int .i64 0, ?_, rfl, (hbX.out.setCell (p := ⟨w.heap.size + 1, 0, none⟩) (by simp) _).trans (belowK_b (w := w) (Nat.le_refl _) _ D' _ _ (by have := hbw.size; omega) hK1 rfl rfl)⟩
    simp [results, Tryz.f64, go_sem, hset]
end Go.Proofs.YtjcpclcmnhpgpaaGreatDoor

set_option linter.unusedVariables false
set_option linter.unusedSimpArgs false
namespace Go.Proofs.YtjcpclcmnhpgpaaGreatDoor
open Go.RowKit Go.Shelf
set_option maxRecDepth 100000 in
theorem heapNew_at {w : World} {a mb q : Nat} {D : DW} {mem : Nat → Nat} (h : SlabAt w a mb D [] q mem) (hT : Tab w) (htF : ∀ b, SlabF a mb D b → 1 < b) :
    Calls Tryz.prog 34 #[.pointer (some ⟨a, 0, none⟩)] w fun e w' => ∃ ha, e = .returned (.tuple #[.pointer (some ⟨ha, 0, none⟩), .int .i64 0]) ∧ HeapIs w' ha a (SlabF a mb D) [] q mem ∧ w.heap.size ≤ ha ∧ Below w.heap.size w w' := by
  have hR := Lib.hid (read_none h 0 (by omega) (by simp))
  have hb1 : Below w.heap.size w (w.alloc (.cells #[.pointer (some ⟨a, 0, none⟩)] 132)) := (Below.refl _ w).alloc (Nat.le_refl _) _
  have hlt := h.lt (.inl rfl : SlabF a mb D a)
  have hH : HeapIs (w.alloc (.cells #[.pointer (some ⟨a, 0, none⟩)] 132)) w.heap.size a (SlabF a mb D) [] q mem := by
    refine ⟨⟨mb, D, ⟨by go_simp, h.alloc _, fun hf => Nat.lt_irrefl _ (h.lt hf), hT.below hb1 (Nat.lt_trans (htF a (.inl rfl)) hlt), htF⟩, rfl⟩, lay_nil, heads_nil _⟩
  have hA := Lib.hid (audit_empty hH)
  have hHH := Lib.hid hH
  have hbH := Lib.hid hb1
  clear h hT hH hb1
  go_enter Tryz.func34, Tryz.ntmps34
  go_wp2_with fail
  refine hR.out.mono ?_
  rintro e w' ⟨rfl, rfl⟩
  go_wp2_with fail
  refine hA.out.mono ?_
  rintro e w2 ⟨rfl, hb2⟩
  have hb3 := Lib.hid (hbH.out.trans (hb2.mono (by simp)))
  have hH2 := Lib.hid (hHH.out.below hb2)
  clear hb2
  go_wp2
  go_ret2
  exact ⟨_, rfl, hH2.out, Nat.le_refl _, hb3.out⟩
end Go.Proofs.YtjcpclcmnhpgpaaGreatDoor

set_option linter.unusedVariables false
set_option linter.unusedSimpArgs false
namespace Go.Proofs.YtjcpclcmnhpgpaaGreatDoor
open Go.RowKit Go.Shelf
structure Sl where
  is : Nat
  gen : Nat
  addr : Nat
abbrev Sl.cells (s : Sl) : List Value := [.int .i64 (s.is : Nat), .int .u32 (s.gen : Nat), .int .i64 (s.addr : Nat)]
def slCells (sl : List Sl) : List Value := sl.flatMap Sl.cells
structure Sl.Ok (last : Nat) (s : Sl) : Prop where
  is : s.is ≤ 2
  lo : 1 ≤ s.gen
  hi : s.gen ≤ last
  free : s.is = 0 → s.gen < last
  addr : s.addr < 1099511627776
structure HTab (w : World) (t : Nat) (v : Value) (most last : Nat) (sl : List Sl) : Prop where
  c0 : w.cell? ⟨t, 0, none⟩ = some (.int .i64 (most : Nat))
  c1 : w.cell? ⟨t, 1, none⟩ = some (.int .u32 (last : Nat))
  c2 : w.cell? ⟨t, 2, none⟩ = some v
  f2 : w.frozen? ⟨t, 2, none⟩ = false
  row : w.ownsRow 0 202 3 v sl.length (slCells sl)
  off : v.ownBlock ≠ some t
  m1 : 1 ≤ most
  m2 : most ≤ 65536
  l1 : 1 ≤ last
  l2 : last < 4294967296
  len : sl.length ≤ most
  ok : ∀ s ∈ sl, s.Ok last
def HTabF (t : Nat) (v : Value) (b : Nat) : Prop := b = t ∨ v.ownBlock = some b
theorem slCells_len (sl : List Sl) : (slCells sl).length = 3 * sl.length := by
  induction sl with
  | nil => rfl
  | cons s t ih => simp only [slCells, List.flatMap_cons, List.length_append, List.length_cons] at *; rw [ih]; simp; omega
theorem slCells_at (sl : List Sl) (k : Nat) (hk : k < sl.length) (j : Nat) (hj : j < 3) : (slCells sl)[3 * k + j]? = (sl[k]).cells[j]? := by
  induction sl generalizing k with
  | nil => simp at hk
  | cons s t ih =>
    cases k with
    | zero =>
      simp only [slCells, List.flatMap_cons, Nat.mul_zero, Nat.zero_add, List.getElem_cons_zero]
      rw [List.getElem?_append_left (by simpa using hj)]
    | succ k =>
      simp only [slCells, List.flatMap_cons, List.getElem_cons_succ]
      rw [List.getElem?_append_right (by simp; omega)]
      rw [show 3 * (k + 1) + j - s.cells.length = 3 * k + j by simp; omega]
      exact ih k (by simpa using hk)
theorem HTab.row_form {w : World} {t most last : Nat} {v : Value} {sl : List Sl} (h : HTab w t v most last sl) : ∃ A c, v = .slice A sl.length c := by
  rcases h.row.2 with ⟨rfl, h0⟩ | ⟨g, cap, cur, rfl, _⟩
  · exact ⟨none, 0, by rw [h0]⟩
  · exact ⟨_, _, rfl⟩
theorem HTab.slot {w : World} {t most last : Nat} {v : Value} {sl : List Sl} (h : HTab w t v most last sl) {k : Nat} (hk : k < sl.length) :
    ∃ g c, v = .slice (some ⟨g, 0, none⟩) sl.length c ∧ g < w.heap.size ∧ w.cell? ⟨g, k * 3, none⟩ = some (.int .i64 (sl[k].is : Nat)) ∧ w.cell? ⟨g, k * 3 + 1, none⟩ = some (.int .u32 (sl[k].gen : Nat)) ∧ w.cell? ⟨g, k * 3 + 2, none⟩ = some (.int .i64 (sl[k].addr : Nat)) ∧
      w.frozen? ⟨g, k * 3, none⟩ = false ∧ w.frozen? ⟨g, k * 3 + 1, none⟩ = false ∧ w.frozen? ⟨g, k * 3 + 2, none⟩ = false ∧ w.ownsRow 0 202 3 (.slice (some ⟨g, 0, none⟩) sl.length c) sl.length (slCells sl) := by
  have hrow := h.row
  rcases h.row.2 with ⟨rfl, h0⟩ | ⟨g, cap, cur, rfl, hb, hg, hcur⟩
  · omega
  · have hc := fun j (hj : j < 3) => slCells_at sl k hk j hj
    refine ⟨g, cap, rfl, (Array.getElem?_eq_some_iff.1 hg).1, ?_, ?_, ?_, hrow.frozenAt _, hrow.frozenAt _, hrow.frozenAt _, hrow⟩
    · rw [hrow.cellAt _ (by omega), show k * 3 = 3 * k + 0 by omega, hc 0 (by omega)]; rfl
    · rw [hrow.cellAt _ (by omega), show k * 3 + 1 = 3 * k + 1 by omega, hc 1 (by omega)]; rfl
    · rw [hrow.cellAt _ (by omega), show k * 3 + 2 = 3 * k + 2 by omega, hc 2 (by omega)]; rfl
theorem hnone_at {w : World} {t most last : Nat} {v : Value} {sl : List Sl} (h : HTab w t v most last sl) : Calls Tryz.prog 134 #[.pointer (some ⟨t, 0, none⟩)] w fun e w' => e = .returned (.bool false) ∧ w = w' := by
  have h0 := h.c0
  have hm := h.m1
  have d1 : ((most : Int) == 0) = false := by simp; omega
  clear h
  go_enter Tryz.func134, Tryz.ntmps134
  go_wp2
  go_ret
  exact ⟨rfl, rfl⟩
theorem or32 (g k : Nat) (hg : g < 4294967296) (hk : k < 4294967296) : bits BinOp.or IntKind.u64 ((g : Int) * 4294967296) (k : Int) = ((g * 4294967296 + k : Nat) : Int) := by
  rw [show (g : Int) * 4294967296 = ((g * 4294967296 : Nat) : Int) by omega, bits_or_u64_nat _ _ (by omega) (by omega)]
  have := Nat.shiftLeft_add_eq_or_of_lt (i := 32) (b := k) (by omega) g
  rw [Nat.shiftLeft_eq] at this
  rw [show (2 : Nat) ^ 32 = 4294967296 by decide] at this
  rw [this]
theorem and32 (h : Nat) (hh : h < 18446744073709551616) : bits BinOp.and IntKind.u64 (h : Int) 4294967295 = ((h % 4294967296 : Nat) : Int) := by
  have h1 : (4294967295 : Int) = ((2 ^ 32 - 1 : Nat) : Int) := by decide
  rw [h1, bits_and_u64_nat _ _ hh (by decide), Nat.and_two_pow_sub_one_eq_mod]
def handleN (g k : Nat) : Nat := g * 4294967296 + (k + 1)
set_option maxRecDepth 100000 in
theorem name_at {w : World} {t most last : Nat} {v : Value} {sl : List Sl} (h : HTab w t v most last sl) {k : Nat} (hk : k < sl.length) : Calls Tryz.prog 135 #[.pointer (some ⟨t, 0, none⟩), .int .i64 (k : Nat)] w fun e w' => e = .returned (.int .u64 (handleN sl[k].gen k : Nat)) ∧ w = w' := by
  have h2 := h.c2
  obtain ⟨g, c, rfl, hg, s0, s1, s2, _⟩ := h.slot hk
  have hok := h.ok _ (List.getElem_mem hk)
  have hgen := hok.hi
  have hl2 := h.l2
  have hlen := h.len
  have hm2 := h.m2
  generalize hgg : sl[k].gen = gen at *
  have hO : Hid (bits BinOp.or IntKind.u64 ((gen : Int) * 4294967296) ((k : Int) + 1) = ((handleN gen k : Nat) : Int)) := Lib.hid (by
    have := or32 gen (k + 1) (by omega) (by omega)
    rw [Int.natCast_add] at this
    exact this)
  clear h hok hgg
  go_enter Tryz.func135, Tryz.ntmps135
  go_wp2
  go_ret
  exact ⟨by rw [← hO.out]; rfl, rfl⟩
structure Names (sl : List Sl) (h k : Nat) : Prop where
  lt : k < sl.length
  is : ∀ hk : k < sl.length, sl[k].is = 1
  gen : ∀ hk : k < sl.length, h = handleN sl[k].gen k
def NoName (sl : List Sl) (h : Nat) : Prop := ∀ k, ¬ Names sl h k
set_option maxHeartbeats 1000000 in
set_option maxRecDepth 100000 in
theorem of_hit {w : World} {t most last : Nat} {v : Value} {sl : List Sl} (hT : HTab w t v most last sl) {h k : Nat} (hn : Names sl h k) :
    Calls Tryz.prog 136 #[.pointer (some ⟨t, 0, none⟩), .int .u64 (h : Nat)] w fun e w' => ∃ g, v.ownBlock = some g ∧ e = .returned (.tuple #[.pointer (some ⟨g, k * 3, none⟩), .int .i64 0]) ∧ w = w' := by
  have hk := hn.lt
  have h2 := hT.c2
  have hN := Lib.hid (hnone_at hT)
  obtain ⟨g, c, rfl, hg, s0, s1, s2, _⟩ := hT.slot hk
  have hok := hT.ok _ (List.getElem_mem hk)
  have hgen := hok.hi
  have hl2 := hT.l2
  have hlen := hT.len
  have hm2 := hT.m2
  have his := hn.is hk
  have hge := hn.gen hk
  rw [his] at s0
  generalize hgg : sl[k].gen = gen at *
  unfold handleN at hge
  have hA := Lib.hid (and32 h (by omega))
  have hmod : h % 4294967296 = k + 1 := by omega
  have hdiv : Hid ((h : Int) / 4294967296 = (gen : Int)) := Lib.hid (by omega)
  rw [hmod] at hA
  have hh64 : h < 18446744073709551616 := by omega
  clear hT hok hgg hge hn his hmod
  go_enter Tryz.func136, Tryz.ntmps136
  go_wp2_with fail
  refine hN.out.mono ?_
  rintro e w' ⟨rfl, rfl⟩
  have hA' := hA.out
  have hdiv' := hdiv.out
  go_wp2_with fail
  go_ret2
  exact ⟨g, rfl, rfl, rfl⟩
set_option maxHeartbeats 1000000 in
set_option maxRecDepth 100000 in
theorem of_miss {w : World} {t most last : Nat} {v : Value} {sl : List Sl} (hT : HTab w t v most last sl) {h : Nat} (hh : h < 18446744073709551616) (hn : NoName sl h) :
    Calls Tryz.prog 136 #[.pointer (some ⟨t, 0, none⟩), .int .u64 (h : Nat)] w fun e w' => e = .returned (.tuple #[.pointer none, .int .i64 7]) ∧ w = w' := by
  have h2 := hT.c2
  have hN := Lib.hid (hnone_at hT)
  obtain ⟨A, c, rfl⟩ := hT.row_form
  have hl2 := hT.l2
  have hlen := hT.len
  have hm2 := hT.m2
  have hA := and32 h hh
  obtain ⟨j, hj⟩ : ∃ j, h % 4294967296 = j := ⟨_, rfl⟩
  have hjb : j < 4294967296 := by omega
  rw [hj] at hA
  cases j with
  | zero =>
    have hAH := Lib.hid hA
    clear hT hn hj hA
    go_enter Tryz.func136, Tryz.ntmps136
    go_wp2_with fail
    refine hN.out.mono ?_
    rintro e w' ⟨rfl, rfl⟩
    have hA' := hAH.out
    go_wp2_with fail
    go_ret2
    exact ⟨rfl, rfl⟩
  | succ k =>
    by_cases hk : k < sl.length
    · obtain ⟨g, c', hv, hg, s0, s1, s2, _⟩ := hT.slot hk
      cases hv
      have hok := hT.ok _ (List.getElem_mem hk)
      have hgen := hok.hi
      have his2 := hok.is
      have hdec : sl[k].is ≠ 1 ∨ (sl[k].is = 1 ∧ sl[k].gen ≠ h / 4294967296) := by
        by_cases h1 : sl[k].is = 1
        · refine .inr ⟨h1, fun h3 => hn k ⟨hk, fun _ => h1, fun _ => ?_⟩⟩
          unfold handleN; omega
        · exact .inl h1
      have hAH := Lib.hid hA
      obtain ⟨is, his⟩ : ∃ is, sl[k].is = is := ⟨_, rfl⟩
      obtain ⟨gen, hgg⟩ : ∃ gen, sl[k].gen = gen := ⟨_, rfl⟩
      rw [his] at s0 hdec his2
      rw [hgg] at s1 hdec hgen
      obtain ⟨d, hd⟩ : ∃ d, h / 4294967296 = d := ⟨_, rfl⟩
      rw [hd] at hdec
      have hdb : d < 4294967296 := by omega
      have hdH : Hid ((h : Int) / 4294967296 = (d : Int)) := Lib.hid (by omega)
      clear hT hn hj hok his hgg hA hd s2
      rcases hdec with h1 | ⟨rfl, h1⟩
      · have d1 : ((is : Int) != 1) = true := by simp; omega
        clear h1
        go_enter Tryz.func136, Tryz.ntmps136
        go_wp2_with fail
        refine hN.out.mono ?_
        rintro e w' ⟨rfl, rfl⟩
        have hA' := hAH.out
        have hdiv' := hdH.out
        go_wp2_with fail
        go_ret2
        exact ⟨rfl, rfl⟩
      · have d1 : ((gen : Int) != (d : Int)) = true := by simp; omega
        clear h1
        go_enter Tryz.func136, Tryz.ntmps136
        go_wp2_with fail
        refine hN.out.mono ?_
        rintro e w' ⟨rfl, rfl⟩
        have hA' := hAH.out
        have hdiv' := hdH.out
        go_wp2_with fail
        go_ret2
        exact ⟨rfl, rfl⟩
    · have hAH := Lib.hid hA
      clear hT hn hj hA
      go_enter Tryz.func136, Tryz.ntmps136
      go_wp2_with fail
      refine hN.out.mono ?_
      rintro e w' ⟨rfl, rfl⟩
      have hA' := hAH.out
      go_wp2_with fail
      go_ret2
      exact ⟨rfl, rfl⟩
end Go.Proofs.YtjcpclcmnhpgpaaGreatDoor

set_option linter.unusedVariables false
set_option linter.unusedSimpArgs false
namespace Go.Proofs.YtjcpclcmnhpgpaaGreatDoor
open Go.RowKit Go.Shelf
theorem slCells_get (sl : List Sl) (i : Nat) : (slCells sl)[i]? = (sl[i / 3]?).bind (fun s => s.cells[i % 3]?) := by
  by_cases h : i / 3 < sl.length
  · rw [List.getElem?_eq_getElem h]
    have := slCells_at sl (i / 3) h (i % 3) (Nat.mod_lt _ (by omega))
    rw [show 3 * (i / 3) + i % 3 = i by omega] at this
    exact this
  · have h1 : sl[i / 3]? = none := List.getElem?_eq_none (by omega)
    have h2 : (slCells sl)[i]? = none := List.getElem?_eq_none (by rw [slCells_len]; omega)
    rw [h1, h2]
    rfl
theorem slCells_set1 (sl : List Sl) (k : Nat) (hk : k < sl.length) (n : Nat) : slCells (sl.set k { sl[k] with is := n }) = (slCells sl).set (k * 3) (.int .i64 (n : Nat)) := by
  apply List.ext_getElem?
  intro i
  rw [slCells_get, List.getElem?_set, List.getElem?_set, slCells_get, slCells_len]
  by_cases h1 : k = i / 3
  · rw [if_pos h1]
    by_cases h2 : k * 3 = i
    · rw [if_pos h2, if_pos hk, if_pos (by omega)]
      have : i % 3 = 0 := by omega
      rw [this]; rfl
    · rw [if_neg h2, if_pos hk]
      subst h1
      rw [List.getElem?_eq_getElem hk]
      have : i % 3 = 1 ∨ i % 3 = 2 := by omega
      rcases this with h3 | h3 <;> rw [h3] <;> rfl
  · rw [if_neg h1, if_neg (by omega)]
theorem slCells_set3 (sl : List Sl) (k : Nat) (hk : k < sl.length) (s : Sl) : slCells (sl.set k s) = (((slCells sl).set (k * 3) (.int .i64 (s.is : Nat))).set (k * 3 + 1) (.int .u32 (s.gen : Nat))).set (k * 3 + 2) (.int .i64 (s.addr : Nat)) := by
  apply List.ext_getElem?
  intro i
  rw [slCells_get, List.getElem?_set, List.getElem?_set, List.getElem?_set, List.getElem?_set, slCells_get, List.length_set, List.length_set, slCells_len]
  by_cases h1 : k = i / 3
  · rw [if_pos h1, if_pos hk]
    have : i % 3 = 0 ∨ i % 3 = 1 ∨ i % 3 = 2 := by omega
    rcases this with h3 | h3 | h3
    · rw [if_neg (by omega), if_neg (by omega), if_pos (by omega), if_pos (by omega), h3]; rfl
    · rw [if_neg (by omega), if_pos (by omega), if_pos (by omega), h3]; rfl
    · rw [if_pos (by omega), if_pos (by omega), h3]; rfl
  · rw [if_neg h1, if_neg (by omega), if_neg (by omega), if_neg (by omega)]
theorem slCells_snoc (sl : List Sl) (s : Sl) : slCells (sl ++ [s]) = slCells sl ++ s.cells := by simp [slCells]
theorem HTab.same {w w' : World} {t most last : Nat} {v : Value} {sl : List Sl} (h : HTab w t v most last sl) (hk : ∀ b, HTabF t v b → w'.heap[b]? = w.heap[b]?) : HTab w' t v most last sl where
  c0 := (World.cell?_of_block (a := ⟨t, 0, none⟩) (hk t (.inl rfl))).trans h.c0
  c1 := (World.cell?_of_block (a := ⟨t, 1, none⟩) (hk t (.inl rfl))).trans h.c1
  c2 := (World.cell?_of_block (a := ⟨t, 2, none⟩) (hk t (.inl rfl))).trans h.c2
  f2 := (World.frozen?_of_block (a := ⟨t, 2, none⟩) (hk t (.inl rfl))).trans h.f2
  row := by
    refine ⟨h.row.1, ?_⟩
    rcases h.row.2 with h1 | ⟨g, cap, cur, h1, h2, h3, h4⟩
    · exact .inl h1
    · exact .inr ⟨g, cap, cur, h1, h2, (hk g (.inr (by rw [h1]; rfl))).trans h3, h4⟩
  off := h.off
  m1 := h.m1
  m2 := h.m2
  l1 := h.l1
  l2 := h.l2
  len := h.len
  ok := h.ok
theorem HTab.lt {w : World} {t most last : Nat} {v : Value} {sl : List Sl} (h : HTab w t v most last sl) {b : Nat} (hb : HTabF t v b) : b < w.heap.size := by
  rcases hb with rfl | hb
  · exact cell_lt (a := ⟨_, 0, none⟩) h.c0
  · exact (h.row.lt b hb).2
theorem HTab.below {w w' : World} {t most last : Nat} {v : Value} {sl : List Sl} (h : HTab w t v most last sl) (hb : Below w.heap.size w w') : HTab w' t v most last sl :=
  h.same fun b hF => hb.block b (h.lt hF)
theorem HTab.turn {w w' : World} {t most last : Nat} {v : Value} {sl : List Sl} {G G' : Nat → Prop} (h : HTab w t v most last sl) (ht : Turn w G w' G') (hG : ∀ b, HTabF t v b → ¬ G b) : HTab w' t v most last sl :=
  h.same fun b hF => ht.keep b (h.lt hF) (hG b hF)
theorem HTab.setIs {w w' : World} {t most last g c : Nat} {sl : List Sl} (h : HTab w t (.slice (some ⟨g, 0, none⟩) sl.length c) most last sl) {k : Nat} (hk : k < sl.length) (n : Nat) (hn : n ≤ 2) (hfree : n = 0 → sl[k].gen < last)
    (hb : w'.heap[t]? = w.heap[t]?) (hr : w'.ownsRow 0 202 3 (.slice (some ⟨g, 0, none⟩) sl.length c) sl.length ((slCells sl).set (k * 3) (.int .i64 (n : Nat)))) :
    HTab w' t (.slice (some ⟨g, 0, none⟩) sl.length c) most last (sl.set k { sl[k] with is := n }) := by
  refine ⟨?_, ?_, ?_, ?_, ?_, h.off, h.m1, h.m2, h.l1, h.l2, by rw [List.length_set]; exact h.len, ?_⟩
  · exact (World.cell?_of_block (a := ⟨t, 0, none⟩) hb).trans h.c0
  · exact (World.cell?_of_block (a := ⟨t, 1, none⟩) hb).trans h.c1
  · exact (World.cell?_of_block (a := ⟨t, 2, none⟩) hb).trans h.c2
  · exact (World.frozen?_of_block (a := ⟨t, 2, none⟩) hb).trans h.f2
  · rw [List.length_set, slCells_set1 sl k hk n]
    exact hr
  · intro s hs
    rcases List.mem_or_eq_of_mem_set hs with h1 | h1
    · exact h.ok s h1
    · subst h1
      have := h.ok _ (List.getElem_mem hk)
      exact ⟨hn, this.lo, this.hi, hfree, this.addr⟩
theorem ownsRow_drewN {w : World} {base : Nat} {e : TypeId} {size : Nat} {v : Value} {n : Nat} {xs : List Value} (h : w.ownsRow base e size v n xs) (d : Nat) : (w.drewN d).ownsRow base e size v n xs := h
theorem turn_setCell {w : World} {F : Nat → Prop} (p : Addr) (v : Value) (hF : F p.block) : Turn w F (w.setCell p v) F :=
  ⟨rfl, rfl, rfl, by simp, fun k _ hk => Below.heap_setCell _ _ _ k (fun e => hk (e ▸ hF)), fun _ h => .inl h⟩
set_option maxRecDepth 100000 in
theorem hat_hit {w : World} {t most last : Nat} {v : Value} {sl : List Sl} (hT : HTab w t v most last sl) {h k : Nat} (hn : Names sl h k) (hk : k < sl.length) :
    Calls Tryz.prog 119 #[.pointer (some ⟨t, 0, none⟩), .int .u64 (h : Nat)] w fun e w' => e = .returned (.tuple #[.int .i64 (sl[k].addr : Nat), .int .i64 0]) ∧ w = w' := by
  have hO := Lib.hid (of_hit hT hn)
  obtain ⟨g, c, rfl, hg, s0, s1, s2, _⟩ := hT.slot hk
  generalize sl[k].addr = addr at *
  clear hT hn
  go_enter Tryz.func119, Tryz.ntmps119
  go_wp2_with fail
  refine hO.out.mono ?_
  rintro e w' ⟨g', hg', rfl, rfl⟩
  simp only [Value.ownBlock, Option.some.injEq] at hg'
  subst hg'
  go_wp2
  go_ret2
  exact ⟨rfl, rfl⟩
set_option maxRecDepth 100000 in
theorem hat_miss {w : World} {t most last : Nat} {v : Value} {sl : List Sl} (hT : HTab w t v most last sl) {h : Nat} (hh : h < 18446744073709551616) (hn : NoName sl h) :
    Calls Tryz.prog 119 #[.pointer (some ⟨t, 0, none⟩), .int .u64 (h : Nat)] w fun e w' => e = .returned (.tuple #[.int .i64 0, .int .i64 7]) ∧ w = w' := by
  have hO := Lib.hid (of_miss hT hh hn)
  clear hT hn hh
  go_enter Tryz.func119, Tryz.ntmps119
  go_wp2_with fail
  refine hO.out.mono ?_
  rintro e w' ⟨rfl, rfl⟩
  go_wp2
  go_ret2
  exact ⟨rfl, rfl⟩
def closedIs (gen last : Nat) : Nat := if gen = last then 2 else 0
set_option maxHeartbeats 1000000 in
set_option maxRecDepth 100000 in
theorem hclose_hit {w : World} {t most last : Nat} {v : Value} {sl : List Sl} (hT : HTab w t v most last sl) {h k : Nat} (hn : Names sl h k) (hk : k < sl.length) :
    Calls Tryz.prog 102 #[.pointer (some ⟨t, 0, none⟩), .int .u64 (h : Nat)] w fun e w' => e = .returned (.int .i64 0) ∧ HTab w' t v most last (sl.set k { sl[k] with is := closedIs sl[k].gen last }) ∧ Turn w (HTabF t v) w' (HTabF t v) := by
  have hO := Lib.hid (of_hit hT hn)
  obtain ⟨g, c, rfl, hg, s0, s1, s2, f0, f1, f2, _⟩ := hT.slot hk
  have hc1 := hT.c1
  have hgt : g ≠ t := fun e => hT.off (by rw [e]; rfl)
  have hHT := Lib.hid hT
  have hgen := (hT.ok _ (List.getElem_mem hk)).hi
  have hgF : HTabF t (.slice (some ⟨g, 0, none⟩) sl.length c) g := .inr rfl
  obtain ⟨gen, hgg⟩ : ∃ gen, sl[k].gen = gen := ⟨_, rfl⟩
  rw [hgg] at s1 hgen ⊢
  have hggH := Lib.hid hgg
  clear hT hn hgg s2
  by_cases hl : gen = last
  · have d1 : ((gen : Int) == (last : Int)) = true := by simp [hl]
    have hci : closedIs gen last = 2 := if_pos hl
    rw [hci]
    have hlH := Lib.hid hl
    clear hl hci
    go_enter Tryz.func102, Tryz.ntmps102
    go_wp2_with fail
    refine hO.out.mono ?_
    rintro e w' ⟨g', hg', rfl, rfl⟩
    simp only [Value.ownBlock, Option.some.injEq] at hg'
    subst hg'
    go_wp2_with fail
    go_quiet (fail)
    go_wp2
    go_ret
    refine ⟨rfl, ?_, ((turn_setCell _ _ hgF).trans (.below (drewN_below _ _))).trans (turn_setCell _ _ hgF)⟩
    have r1 := (hHT.out.row.stored (k * 3) (.int .i64 0)).1
    have r2 := ((ownsRow_drewN r1 nq).stored (k * 3) (.int .i64 2)).1
    rw [List.set_set] at r2
    exact hHT.out.setIs hk 2 (by omega) (fun e => by omega) ((Below.heap_setCell _ _ _ t (Ne.symm hgt)).trans (Below.heap_setCell w _ _ t (Ne.symm hgt))) r2
  · have d1 : ((gen : Int) == (last : Int)) = false := by simp; omega
    have hci : closedIs gen last = 0 := if_neg hl
    rw [hci]
    have hlH := Lib.hid hl
    clear hl hci
    go_enter Tryz.func102, Tryz.ntmps102
    go_wp2_with fail
    refine hO.out.mono ?_
    rintro e w' ⟨g', hg', rfl, rfl⟩
    simp only [Value.ownBlock, Option.some.injEq] at hg'
    subst hg'
    go_wp2_with fail
    go_quiet (fail)
    go_wp2
    go_ret
    refine ⟨rfl, ?_, (turn_setCell _ _ hgF).trans (.below (drewN_below _ _))⟩
    have r1 := (hHT.out.row.stored (k * 3) (.int .i64 0)).1
    exact hHT.out.setIs hk 0 (by omega) (fun e => by rw [hggH.out]; have := hlH.out; omega) (Below.heap_setCell w _ _ t (Ne.symm hgt)) (ownsRow_drewN r1 nq)
set_option maxRecDepth 100000 in
theorem hnew_at (most last : Nat) (h1 : 1 ≤ most) (h2 : most ≤ 65536) (h3 : 1 ≤ last) (h4 : last < 4294967296) (w : World) :
    Calls Tryz.prog 33 #[.int .i64 (most : Nat), .int .u32 (last : Nat)] w fun e w' => ∃ t, e = .returned (.tuple #[.pointer (some ⟨t, 0, none⟩), .int .i64 0]) ∧ HTab w' t (.slice none 0 0) most last [] ∧ w.heap.size ≤ t ∧ Below w.heap.size w w' := by
  have d1 : decide ((most : Int) < 1) = false := by simp; omega
  have d2 : decide ((65536 : Int) < (most : Int)) = false := by simp; omega
  have d3 : decide ((last : Int) < 1) = false := by simp; omega
  go_enter Tryz.func33, Tryz.ntmps33
  go_wp2
  go_ret2
  refine ⟨_, rfl, ⟨?_, ?_, ?_, ?_, World.ownsRow_nil _ _ _ _, by simp [Value.ownBlock], h1, h2, h3, h4, by simp, by simp⟩, Nat.le_refl _, (Below.refl _ w).alloc (Nat.le_refl _) _⟩ <;> go_simp
end Go.Proofs.YtjcpclcmnhpgpaaGreatDoor

set_option linter.unusedVariables false
namespace Go.Proofs.YtjcpclcmnhpgpaaGreatDoor
open Go.RowKit Go.Shelf
variable {F : Fence} {n : Nat} {P : Program}
def BookAt (b : Nat) (r : Loop) (W : World) : Prop := W.heap[b + 1]? = some (.loop r) ∧ W.heap[b]? = some (.deferred (some []))
theorem BookAt.lt {b : Nat} {r : Loop} {W : World} (h : BookAt b r W) : b + 1 < W.heap.size := (Array.getElem?_eq_some_iff.1 h.1).1
theorem BookAt.turn {b : Nat} {r : Loop} {W : World} (h : BookAt b r W) (r' : Loop) : BookAt b r' (W.putObj (b + 1) (.loop r')) :=
  ⟨World.putObj_heap_same h.lt, (World.putObj_heap_other (by omega)).trans h.2⟩
end Go.Proofs.YtjcpclcmnhpgpaaGreatDoor

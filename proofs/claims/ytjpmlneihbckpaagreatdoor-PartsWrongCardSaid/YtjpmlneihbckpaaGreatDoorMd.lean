/-
  The seat's own texts, part d: Handle2, Handle3, Store, Store2, Store3, Make, Drop, New.
-/
import Derived.Test.YtjpmlneihbckpaaGreatDoorMc
import Derived.Maps.AppendAt
import Derived.Defers
/- The walks of the package handle: At, Close, New. -/
set_option linter.unusedVariables false
set_option linter.unusedSimpArgs false
namespace Go.Proofs.YtjpmlneihbckpaaGreatDoor
open Go.RowKit Go.Shelf
theorem slCells_get (sl : List Sl) (i : Nat) : (slCells sl)[i]? = (sl[i / 3]?).bind (fun s => s.cells[i % 3]?) := by
  by_cases h : i / 3 < sl.length
  · rw [List.getElem?_eq_getElem h]
    have := slCells_at sl (i / 3) h (i % 3) (Nat.mod_lt _ (by omega))
    rw [show 3 * (i / 3) + i % 3 = i by omega] at this
    exact this
  · have h1 : sl[i / 3]? = none := List.getElem?_eq_none (by omega)
    have h2 : (slCells sl)[i]? = none := List.getElem?_eq_none (by rw [slCells_len]; omega)
    rw [h1, h2]
    rfl
theorem slCells_set1 (sl : List Sl) (k : Nat) (hk : k < sl.length) (n : Nat) : slCells (sl.set k { sl[k] with is := n }) = (slCells sl).set (k * 3) (.int .i64 (n : Nat)) := by
  apply List.ext_getElem?
  intro i
  rw [slCells_get, List.getElem?_set, List.getElem?_set, slCells_get, slCells_len]
  by_cases h1 : k = i / 3
  · rw [if_pos h1]
    by_cases h2 : k * 3 = i
    · rw [if_pos h2, if_pos hk, if_pos (by omega)]
      have : i % 3 = 0 := by omega
      rw [this]; rfl
    · rw [if_neg h2, if_pos hk]
      subst h1
      rw [List.getElem?_eq_getElem hk]
      have : i % 3 = 1 ∨ i % 3 = 2 := by omega
      rcases this with h3 | h3 <;> rw [h3] <;> rfl
  · rw [if_neg h1, if_neg (by omega)]
theorem slCells_set3 (sl : List Sl) (k : Nat) (hk : k < sl.length) (s : Sl) : slCells (sl.set k s) = (((slCells sl).set (k * 3) (.int .i64 (s.is : Nat))).set (k * 3 + 1) (.int .u32 (s.gen : Nat))).set (k * 3 + 2) (.int .i64 (s.addr : Nat)) := by
  apply List.ext_getElem?
  intro i
  rw [slCells_get, List.getElem?_set, List.getElem?_set, List.getElem?_set, List.getElem?_set, slCells_get, List.length_set, List.length_set, slCells_len]
  by_cases h1 : k = i / 3
  · rw [if_pos h1, if_pos hk]
    have : i % 3 = 0 ∨ i % 3 = 1 ∨ i % 3 = 2 := by omega
    rcases this with h3 | h3 | h3
    · rw [if_neg (by omega), if_neg (by omega), if_pos (by omega), if_pos (by omega), h3]; rfl
    · rw [if_neg (by omega), if_pos (by omega), if_pos (by omega), h3]; rfl
    · rw [if_pos (by omega), if_pos (by omega), h3]; rfl
  · rw [if_neg h1, if_neg (by omega), if_neg (by omega), if_neg (by omega)]
theorem slCells_snoc (sl : List Sl) (s : Sl) : slCells (sl ++ [s]) = slCells sl ++ s.cells := by simp [slCells]
theorem HTab.same {w w' : World} {t most last : Nat} {v : Value} {sl : List Sl} (h : HTab w t v most last sl) (hk : ∀ b, HTabF t v b → w'.heap[b]? = w.heap[b]?) : HTab w' t v most last sl where
  c0 := (World.cell?_of_block (a := ⟨t, 0, none⟩) (hk t (.inl rfl))).trans h.c0
  c1 := (World.cell?_of_block (a := ⟨t, 1, none⟩) (hk t (.inl rfl))).trans h.c1
  c2 := (World.cell?_of_block (a := ⟨t, 2, none⟩) (hk t (.inl rfl))).trans h.c2
  f2 := (World.frozen?_of_block (a := ⟨t, 2, none⟩) (hk t (.inl rfl))).trans h.f2
  row := by
    refine ⟨h.row.1, ?_⟩
    rcases h.row.2 with h1 | ⟨g, cap, cur, h1, h2, h3, h4⟩
    · exact .inl h1
    · exact .inr ⟨g, cap, cur, h1, h2, (hk g (.inr (by rw [h1]; rfl))).trans h3, h4⟩
  off := h.off
  m1 := h.m1
  m2 := h.m2
  l1 := h.l1
  l2 := h.l2
  len := h.len
  ok := h.ok
theorem HTab.lt {w : World} {t most last : Nat} {v : Value} {sl : List Sl} (h : HTab w t v most last sl) {b : Nat} (hb : HTabF t v b) : b < w.heap.size := by
  rcases hb with rfl | hb
  · exact cell_lt (a := ⟨_, 0, none⟩) h.c0
  · exact (h.row.lt b hb).2
theorem HTab.below {w w' : World} {t most last : Nat} {v : Value} {sl : List Sl} (h : HTab w t v most last sl) (hb : Below w.heap.size w w') : HTab w' t v most last sl :=
  h.same fun b hF => hb.block b (h.lt hF)
theorem HTab.turn {w w' : World} {t most last : Nat} {v : Value} {sl : List Sl} {G G' : Nat → Prop} (h : HTab w t v most last sl) (ht : Turn w G w' G') (hG : ∀ b, HTabF t v b → ¬ G b) : HTab w' t v most last sl :=
  h.same fun b hF => ht.keep b (h.lt hF) (hG b hF)
/-- the world with another number at the head of slot k -/
theorem HTab.setIs {w w' : World} {t most last g c : Nat} {sl : List Sl} (h : HTab w t (.slice (some ⟨g, 0, none⟩) sl.length c) most last sl) {k : Nat} (hk : k < sl.length) (n : Nat) (hn : n ≤ 2) (hfree : n = 0 → sl[k].gen < last)
    (hb : w'.heap[t]? = w.heap[t]?) (hr : w'.ownsRow 0 209 3 (.slice (some ⟨g, 0, none⟩) sl.length c) sl.length ((slCells sl).set (k * 3) (.int .i64 (n : Nat)))) :
    HTab w' t (.slice (some ⟨g, 0, none⟩) sl.length c) most last (sl.set k { sl[k] with is := n }) := by
  refine ⟨?_, ?_, ?_, ?_, ?_, h.off, h.m1, h.m2, h.l1, h.l2, by rw [List.length_set]; exact h.len, ?_⟩
  · exact (World.cell?_of_block (a := ⟨t, 0, none⟩) hb).trans h.c0
  · exact (World.cell?_of_block (a := ⟨t, 1, none⟩) hb).trans h.c1
  · exact (World.cell?_of_block (a := ⟨t, 2, none⟩) hb).trans h.c2
  · exact (World.frozen?_of_block (a := ⟨t, 2, none⟩) hb).trans h.f2
  · rw [List.length_set, slCells_set1 sl k hk n]
    exact hr
  · intro s hs
    rcases List.mem_or_eq_of_mem_set hs with h1 | h1
    · exact h.ok s h1
    · subst h1
      have := h.ok _ (List.getElem_mem hk)
      exact ⟨hn, this.lo, this.hi, hfree, this.addr⟩
theorem ownsRow_drewN {w : World} {base : Nat} {e : TypeId} {size : Nat} {v : Value} {n : Nat} {xs : List Value} (h : w.ownsRow base e size v n xs) (d : Nat) : (w.drewN d).ownsRow base e size v n xs := h
theorem turn_setCell {w : World} {F : Nat → Prop} (p : Addr) (v : Value) (hF : F p.block) : Turn w F (w.setCell p v) F :=
  ⟨rfl, rfl, rfl, by simp, fun k _ hk => Below.heap_setCell _ _ _ k (fun e => hk (e ▸ hF)), fun _ h => .inl h⟩
set_option maxRecDepth 100000 in
theorem hat_hit {w : World} {t most last : Nat} {v : Value} {sl : List Sl} (hT : HTab w t v most last sl) {h k : Nat} (hn : Names sl h k) (hk : k < sl.length) :
    Calls Tryz.prog 109 #[.pointer (some ⟨t, 0, none⟩), .int .u64 (h : Nat)] w fun e w' => e = .returned (.tuple #[.int .i64 (sl[k].addr : Nat), .int .i64 0]) ∧ w = w' := by
  have hO := Lib.hid (of_hit hT hn)
  obtain ⟨g, c, rfl, hg, s0, s1, s2, _⟩ := hT.slot hk
  generalize sl[k].addr = addr at *
  clear hT hn
  go_enter Tryz.func109, Tryz.ntmps109
  go_wp2_with fail
  refine hO.out.mono ?_
  rintro e w' ⟨g', hg', rfl, rfl⟩
  simp only [Value.ownBlock, Option.some.injEq] at hg'
  subst hg'
  go_wp2
  go_ret2
  exact ⟨rfl, rfl⟩
set_option maxRecDepth 100000 in
theorem hat_miss {w : World} {t most last : Nat} {v : Value} {sl : List Sl} (hT : HTab w t v most last sl) {h : Nat} (hh : h < 18446744073709551616) (hn : NoName sl h) :
    Calls Tryz.prog 109 #[.pointer (some ⟨t, 0, none⟩), .int .u64 (h : Nat)] w fun e w' => e = .returned (.tuple #[.int .i64 0, .int .i64 7]) ∧ w = w' := by
  have hO := Lib.hid (of_miss hT hh hn)
  clear hT hn hh
  go_enter Tryz.func109, Tryz.ntmps109
  go_wp2_with fail
  refine hO.out.mono ?_
  rintro e w' ⟨rfl, rfl⟩
  go_wp2
  go_ret2
  exact ⟨rfl, rfl⟩
def closedIs (gen last : Nat) : Nat := if gen = last then 2 else 0
set_option maxHeartbeats 1000000 in
set_option maxRecDepth 100000 in
theorem hclose_hit {w : World} {t most last : Nat} {v : Value} {sl : List Sl} (hT : HTab w t v most last sl) {h k : Nat} (hn : Names sl h k) (hk : k < sl.length) :
    Calls Tryz.prog 129 #[.pointer (some ⟨t, 0, none⟩), .int .u64 (h : Nat)] w fun e w' => e = .returned (.int .i64 0) ∧ HTab w' t v most last (sl.set k { sl[k] with is := closedIs sl[k].gen last }) ∧ Turn w (HTabF t v) w' (HTabF t v) := by
  have hO := Lib.hid (of_hit hT hn)
  obtain ⟨g, c, rfl, hg, s0, s1, s2, f0, f1, f2, _⟩ := hT.slot hk
  have hc1 := hT.c1
  have hgt : g ≠ t := fun e => hT.off (by rw [e]; rfl)
  have hHT := Lib.hid hT
  have hgen := (hT.ok _ (List.getElem_mem hk)).hi
  have hgF : HTabF t (.slice (some ⟨g, 0, none⟩) sl.length c) g := .inr rfl
  obtain ⟨gen, hgg⟩ : ∃ gen, sl[k].gen = gen := ⟨_, rfl⟩
  rw [hgg] at s1 hgen ⊢
  have hggH := Lib.hid hgg
  clear hT hn hgg s2
  by_cases hl : gen = last
  · have d1 : ((gen : Int) == (last : Int)) = true := by simp [hl]
    have hci : closedIs gen last = 2 := if_pos hl
    rw [hci]
    have hlH := Lib.hid hl
    clear hl hci
    go_enter Tryz.func129, Tryz.ntmps129
    go_wp2_with fail
    refine hO.out.mono ?_
    rintro e w' ⟨g', hg', rfl, rfl⟩
    simp only [Value.ownBlock, Option.some.injEq] at hg'
    subst hg'
    go_wp2_with fail
    go_quiet (fail)
    go_wp2
    go_ret
    refine ⟨rfl, ?_, ((turn_setCell _ _ hgF).trans (.below (drewN_below _ _))).trans (turn_setCell _ _ hgF)⟩
    have r1 := (hHT.out.row.stored (k * 3) (.int .i64 0)).1
    have r2 := ((ownsRow_drewN r1 nq).stored (k * 3) (.int .i64 2)).1
    rw [List.set_set] at r2
    exact hHT.out.setIs hk 2 (by omega) (fun e => by omega) ((Below.heap_setCell _ _ _ t (Ne.symm hgt)).trans (Below.heap_setCell w _ _ t (Ne.symm hgt))) r2
  · have d1 : ((gen : Int) == (last : Int)) = false := by simp; omega
    have hci : closedIs gen last = 0 := if_neg hl
    rw [hci]
    have hlH := Lib.hid hl
    clear hl hci
    go_enter Tryz.func129, Tryz.ntmps129
    go_wp2_with fail
    refine hO.out.mono ?_
    rintro e w' ⟨g', hg', rfl, rfl⟩
    simp only [Value.ownBlock, Option.some.injEq] at hg'
    subst hg'
    go_wp2_with fail
    go_quiet (fail)
    go_wp2
    go_ret
    refine ⟨rfl, ?_, (turn_setCell _ _ hgF).trans (.below (drewN_below _ _))⟩
    have r1 := (hHT.out.row.stored (k * 3) (.int .i64 0)).1
    exact hHT.out.setIs hk 0 (by omega) (fun e => by rw [hggH.out]; have := hlH.out; omega) (Below.heap_setCell w _ _ t (Ne.symm hgt)) (ownsRow_drewN r1 nq)
set_option maxRecDepth 100000 in
theorem hnew_at (most last : Nat) (h1 : 1 ≤ most) (h2 : most ≤ 65536) (h3 : 1 ≤ last) (h4 : last < 4294967296) (w : World) :
    Calls Tryz.prog 49 #[.int .i64 (most : Nat), .int .u32 (last : Nat)] w fun e w' => ∃ t, e = .returned (.tuple #[.pointer (some ⟨t, 0, none⟩), .int .i64 0]) ∧ HTab w' t (.slice none 0 0) most last [] ∧ w.heap.size ≤ t ∧ Below w.heap.size w w' := by
  have d1 : decide ((most : Int) < 1) = false := by simp; omega
  have d2 : decide ((65536 : Int) < (most : Int)) = false := by simp; omega
  have d3 : decide ((last : Int) < 1) = false := by simp; omega
  go_enter Tryz.func49, Tryz.ntmps49
  go_wp2
  go_ret2
  refine ⟨_, rfl, ⟨?_, ?_, ?_, ?_, World.ownsRow_nil _ _ _ _, by simp [Value.ownBlock], h1, h2, h3, h4, by simp, by simp⟩, Nat.le_refl _, (Below.refl _ w).alloc (Nat.le_refl _) _⟩ <;> go_simp
end Go.Proofs.YtjpmlneihbckpaaGreatDoor
/- The walk of handle.Open. -/
set_option linter.unusedVariables false
set_option linter.unusedSimpArgs false
namespace Go.Proofs.YtjpmlneihbckpaaGreatDoor
open Go.RowKit Go.Shelf
theorem Tryz.under_slots : Tryz.prog.underlying 139 = some (.slice 209) := by kernel_rfl
theorem Tryz.info_slot : (Tryz.prog.info? 209).map (fun i => (i.zero, i.size, i.bytes)) = some (some (.agg #[.int .i64 0, .int .u32 0, .int .i64 0]), 3, 24) := by kernel_rfl
/-- what Open has made of the slots -/
structure Opened (sl : List Sl) (addr k g : Nat) (sl' : List Sl) : Prop where
  hit : (∃ hk : k < sl.length, sl[k].is = 0 ∧ g = sl[k].gen + 1 ∧ sl' = sl.set k ⟨1, g, addr⟩) ∨ (k = sl.length ∧ g = 1 ∧ sl' = sl ++ [⟨1, 1, addr⟩])
theorem HTab.setAll {w w' : World} {t most last g c : Nat} {sl : List Sl} {v : Value} (h : HTab w t v most last sl) {k : Nat} {sl0 : List Sl} (hk : k < sl0.length) (s : Sl) (hs : s.Ok last) (hsl : ∀ x ∈ sl0, x ∈ sl ∨ x = ⟨0, 0, 0⟩) (h0 : ∀ x ∈ (sl0.set k s), x ∈ sl ∨ x = s) (hlen : sl0.length ≤ most)
    (c0 : w'.cell? ⟨t, 0, none⟩ = w.cell? ⟨t, 0, none⟩) (c1 : w'.cell? ⟨t, 1, none⟩ = w.cell? ⟨t, 1, none⟩) (c2 : w'.cell? ⟨t, 2, none⟩ = some (.slice (some ⟨g, 0, none⟩) sl0.length c)) (f2 : w'.frozen? ⟨t, 2, none⟩ = false) (hgt : g ≠ t)
    (hr : w'.ownsRow 0 209 3 (.slice (some ⟨g, 0, none⟩) sl0.length c) sl0.length ((((slCells sl0).set (k * 3) (.int .i64 (s.is : Nat))).set (k * 3 + 1) (.int .u32 (s.gen : Nat))).set (k * 3 + 2) (.int .i64 (s.addr : Nat)))) :
    HTab w' t (.slice (some ⟨g, 0, none⟩) sl0.length c) most last (sl0.set k s) where
  c0 := c0.trans h.c0
  c1 := c1.trans h.c1
  c2 := c2
  f2 := f2
  row := by rw [List.length_set, slCells_set3 sl0 k hk s]; exact hr
  off := by simp [Value.ownBlock, hgt]
  m1 := h.m1
  m2 := h.m2
  l1 := h.l1
  l2 := h.l2
  len := by rw [List.length_set]; exact hlen
  ok := fun x hx => by
    rcases h0 x hx with h1 | h1
    · exact h.ok x h1
    · rw [h1]; exact hs
theorem slOk_open {last gen addr : Nat} (h : gen < last) (ha : addr < 1099511627776) : (⟨1, gen + 1, addr⟩ : Sl).Ok last := ⟨(show (1 : Nat) ≤ 2 by omega), Nat.le_add_left 1 gen, h, (fun e => by cases e), ha⟩
theorem turn_set3 {w : World} {F : Nat → Prop} (d g i j k : Nat) (u v x : Value) (hF : F g) : Turn w F ((((w.drewN d).setCell ⟨g, i, none⟩ u).setCell ⟨g, j, none⟩ v).setCell ⟨g, k, none⟩ x) F :=
  (((Turn.below (drewN_below w d)).trans (turn_setCell _ _ hF)).trans (turn_setCell _ _ hF)).trans (turn_setCell _ _ hF)
theorem block_set3 {w : World} (d g t i j k : Nat) (u v x : Value) (h : t ≠ g) : ((((w.drewN d).setCell ⟨g, i, none⟩ u).setCell ⟨g, j, none⟩ v).setCell ⟨g, k, none⟩ x).heap[t]? = w.heap[t]? :=
  (Below.heap_setCell _ _ _ t h).trans ((Below.heap_setCell _ _ _ t h).trans (Below.heap_setCell (w.drewN d) _ _ t h))
theorem row_set3 {w : World} {e : TypeId} {g n c : Nat} {xs : List Value} (hr : w.ownsRow 0 e 3 (.slice (some ⟨g, 0, none⟩) n c) n xs) (d i j k : Nat) (u v x : Value) :
    ((((w.drewN d).setCell ⟨g, i, none⟩ u).setCell ⟨g, j, none⟩ v).setCell ⟨g, k, none⟩ x).ownsRow 0 e 3 (.slice (some ⟨g, 0, none⟩) n c) n (((xs.set i u).set j v).set k x) :=
  ((((ownsRow_drewN hr d).stored i u).1.stored j v).1.stored k x).1
theorem cells_new3 (w : World) (u v x : Value) (T : TypeId) : ∀ (j : Nat) (y : Value), [u, v, x][j]? = some y → (w.alloc (.cells #[u, v, x] T)).cell? ((⟨w.heap.size, 0, none⟩ : Addr).add j) = some y := by
  intro j y h
  have hj : j < 3 := by
    by_cases hh : j < 3
    · exact hh
    · rw [List.getElem?_eq_none (by simp; omega)] at h; cases h
  have : j = 0 ∨ j = 1 ∨ j = 2 := by omega
  rcases this with rfl | rfl | rfl <;> (simp at h; subst h; simp only [Addr.add]; go_simp)
theorem grownBy_setCell'' (W : World) (b o : Nat) (v : Value) : W.grownBy (W.setCell ⟨b, o, none⟩ v) (some b) :=
  ⟨rfl, rfl, rfl, by simp, fun k _ hne => Below.heap_setCell _ _ _ k (fun e => hne (by rw [e]))⟩
theorem grown_table {w w1 : World} {t g n c : Nat} {v : Value} {tmp : Obj} (ht : t < w.heap.size) (hoff : v.ownBlock ≠ some t) (hg : (w.alloc tmp).grownBy w1 v.ownBlock) (hb : (Value.slice (some ⟨g, 0, none⟩) n c).ownBlock = v.ownBlock ∨ (Value.slice (some ⟨g, 0, none⟩) n c).ownBlock = some (w.alloc tmp).heap.size) :
    w1.heap[t]? = w.heap[t]? ∧ g ≠ t := by
  refine ⟨(hg.block t (by simp; omega) (fun e => hoff e.symm)).trans (Below.heap_alloc w tmp t ht), ?_⟩
  rintro rfl
  have e : (Value.slice (some ⟨g, 0, none⟩) n c).ownBlock = some g := rfl
  rw [e] at hb
  rcases hb with h1 | h1
  · exact hoff h1.symm
  · simp at h1; omega
theorem grown_turn {w w1 : World} {t g n c : Nat} {v u : Value} {tmp : Obj} (ht : t < w.heap.size) (hg : (w.alloc tmp).grownBy w1 v.ownBlock) (hb : (Value.slice (some ⟨g, 0, none⟩) n c).ownBlock = v.ownBlock ∨ (Value.slice (some ⟨g, 0, none⟩) n c).ownBlock = some (w.alloc tmp).heap.size) :
    Turn w (HTabF t v) (w1.setCell ⟨t, 2, none⟩ u) (HTabF t (.slice (some ⟨g, 0, none⟩) n c)) := by
  have hsz := hg.size
  simp at hsz
  refine ⟨hg.os, hg.tape, hg.output, by simp; omega, fun k hk hF => ?_, fun k hk => ?_⟩
  · have h1 : k ≠ t := fun e => hF (.inl e)
    have h2 : some k ≠ v.ownBlock := fun e => hF (.inr e.symm)
    exact (Below.heap_setCell _ _ _ k h1).trans ((hg.block k (by simp; omega) h2).trans (Below.heap_alloc w tmp k hk))
  · rcases hk with rfl | hk
    · exact .inl (.inl rfl)
    · rw [hk] at hb
      rcases hb with h1 | h1
      · exact .inl (.inr h1.symm)
      · simp at h1; exact .inr (by omega)
set_option maxHeartbeats 2000000 in
set_option maxRecDepth 100000 in
theorem hopen_at {w : World} {t most last : Nat} {v : Value} {sl : List Sl} (hT : HTab w t v most last sl) (addr : Nat) (ha : addr < 1099511627776) :
    Calls Tryz.prog 117 #[.pointer (some ⟨t, 0, none⟩), .int .i64 (addr : Nat)] w fun e w' =>
      (∃ k g v' sl', Opened sl addr k g sl' ∧ e = .returned (.tuple #[.int .u64 (handleN g k : Nat), .int .i64 0]) ∧ HTab w' t v' most last sl' ∧ Turn w (HTabF t v) w' (HTabF t v')) ∨
      (sl.length = most ∧ (∀ s ∈ sl, s.is ≠ 0) ∧ e = .returned (.tuple #[.int .u64 0, .int .i64 10]) ∧ w = w') := by
  obtain ⟨i0, hi, hz0, hz1, hz2⟩ := info_parts Tryz.info_slot
  have hN := Lib.hid (hnone_at hT)
  have HT := Lib.hid hT
  have h0 := hT.c0
  have h2 := hT.c2
  have hlen := hT.len
  have hm2 := hT.m2
  have hl2 := hT.l2
  obtain ⟨A, c, rfl⟩ := hT.row_form
  clear hT
  go_enter Tryz.func117, Tryz.ntmps117
  go_wp2_with fail
  refine hN.out.mono ?_
  rintro e w' ⟨rfl, rfl⟩
  go_wp2_with fail
  go_loop [6] (fun kv => ∃ k : Nat, k ≤ sl.length ∧ kv = .int .i64 k ∧ Hid (∀ j (hj : j < sl.length), j < k → sl[j].is ≠ 0)) (fun kv => sl.length + 1 - (intOf kv).toNat)
  case atStart => exact ⟨0, by omega, rfl, Lib.hid (by intro j hj h; omega)⟩
  case round =>
    obtain ⟨k, hk, rfl, hbef⟩ := hrel
    by_cases hlt : k < sl.length
    · obtain ⟨g, c', hv, hg, s0, s1, s2, f0, f1, f2, hrow⟩ := HT.out.slot hlt
      cases hv
      have hok := HT.out.ok _ (List.getElem_mem hlt)
      have hfr := hok.free
      obtain ⟨is, his⟩ : ∃ is, sl[k].is = is := ⟨_, rfl⟩
      rw [his] at s0 hfr
      by_cases h00 : is = 0
      · subst h00
        have hgl := hfr rfl
        have d1 : decide ((sl.length : Int) = (most : Int)) = decide ((sl.length : Int) = (most : Int)) := rfl
        have hkm : ((k : Int) == (most : Int)) = false := by simp; omega
        have hkl : ((k : Int) == (sl.length : Int)) = false := by simp; omega
        obtain ⟨gen, hgen⟩ : ∃ gen, sl[k].gen = gen := ⟨_, rfl⟩
        rw [hgen] at s1 hgl
        have hgt : g ≠ t := fun e => HT.out.off (by rw [e]; rfl)
        have hgF : HTabF t (.slice (some ⟨g, 0, none⟩) sl.length c) g := .inr rfl
        have hset : Hid (∀ W : World, W.heap[t]? = w.heap[t]? → W.ownsRow 0 209 3 (.slice (some ⟨g, 0, none⟩) sl.length c) sl.length ((((slCells sl).set (k * 3) (.int .i64 (1 : Nat))).set (k * 3 + 1) (.int .u32 (gen + 1 : Nat))).set (k * 3 + 2) (.int .i64 (addr : Nat))) →
            HTab W t (.slice (some ⟨g, 0, none⟩) sl.length c) most last (sl.set k ⟨1, gen + 1, addr⟩)) := Lib.hid (fun W hb hr => by
          refine HT.out.setAll hlt ⟨1, gen + 1, addr⟩ (slOk_open hgl ha) (fun x hx => .inl hx) (fun x hx => ?_) hlen (World.cell?_of_block (a := ⟨t, 0, none⟩) hb) (World.cell?_of_block (a := ⟨t, 1, none⟩) hb) ((World.cell?_of_block (a := ⟨t, 2, none⟩) hb).trans HT.out.c2) ((World.frozen?_of_block (a := ⟨t, 2, none⟩) hb).trans HT.out.f2) hgt hr
          exact List.mem_or_eq_of_mem_set hx)
        have hgenH := Lib.hid hgen
        have hisH := Lib.hid his
        have hrowH := Lib.hid hrow
        clear hgen his hfr hok hrow d1
        go_wp2_with fail
        refine wp_region_quiet_tail 17 (by kernel_rfl) (by kernel_rfl) ?_
        simp only [List.take_succ_cons, List.take_zero, List.drop_succ_cons, List.drop_zero]
        repeat (go_big_quiet_step (fail))
        refine wpQuiet_nil ?_
        rintro _ ⟨nq, rfl⟩
        have hW := Lib.hid (hset.out _ (block_set3 nq g t (k * 3) (k * 3 + 1) (k * 3 + 2) (.int .i64 1) (.int .u32 ((gen : Int) + 1)) (.int .i64 (addr : Nat)) (Ne.symm hgt)) (row_set3 hrowH.out nq (k * 3) (k * 3 + 1) (k * 3 + 2) (.int .i64 1) (.int .u32 ((gen : Int) + 1)) (.int .i64 (addr : Nat))))
        have hTn := Lib.hid (turn_set3 (w := w) nq g (k * 3) (k * 3 + 1) (k * 3 + 2) (.int .i64 1) (.int .u32 ((gen : Int) + 1)) (.int .i64 (addr : Nat)) hgF)
        have hNm := name_at hW.out (k := k) (by rw [List.length_set]; exact hlt)
        rw [List.getElem_set_self] at hNm
        have hNmH := Lib.hid hNm
        clear hNm hset
        go_wp2_with fail
        refine hNmH.out.mono ?_
        rintro e w' ⟨rfl, rfl⟩
        go_wp2
        go_ret2
        exact .inl ⟨k, gen + 1, _, _, ⟨.inl ⟨hlt, hisH.out, by rw [hgenH.out], rfl⟩⟩, rfl, hW.out, hTn.out⟩
      · have d1 : ((is : Int) != 0) = true := by simp; omega
        have hisH : Hid (sl[k].is ≠ 0) := Lib.hid (by rw [his]; exact h00)
        clear h00 his hok hfr hrow
        go_wp2
        go_round
        case rel => exact ⟨k + 1, by omega, by go_num, Lib.hid (fun j hj hjk => by
          rcases Nat.lt_succ_iff_lt_or_eq.1 hjk with h9 | rfl
          · exact hbef.out j hj h9
          · exact hisH.out)⟩
        case measure => simp [intOf]; omega
    · obtain rfl : k = sl.length := by omega
      by_cases hmost : sl.length = most
      · have d1 : ((sl.length : Int) == (most : Int)) = true := by simp [hmost]
        have hmH := Lib.hid hmost
        clear hmost
        go_wp2
        go_ret2
        exact .inr ⟨hmH.out, fun s hs => by
          obtain ⟨j, hj, rfl⟩ := List.getElem_of_mem hs
          exact hbef.out j hj hj, rfl, rfl⟩
      · have hkm : ((sl.length : Int) == (most : Int)) = false := by simp; omega
        have hkl : ((sl.length : Int) == (sl.length : Int)) = true := by simp
        have hf2 := HT.out.f2
        have hrowH := Lib.hid HT.out.row
        have hmH := Lib.hid hmost
        have htl : t < w.heap.size := HT.out.lt (.inl rfl)
        clear hmost
        have hoff := Lib.hid HT.out.off
        have hgF : Hid (∀ b, (Value.slice A sl.length c).ownBlock = some b → HTabF t (.slice A sl.length c) b) := Lib.hid (fun b hb => .inr hb)
        go_wp2_with (at_builtin; go_must (refine wpList_append_own_at _ rfl _ _ 139 rfl 0 209 i0 (.agg #[.int .i64 0, .int .u32 0, .int .i64 0]) 3 24 Tryz.under_slots hi hz0 hz1 hz2 rfl (by decide) _ _ _ rfl (hrowH.out.alloc _) ⟨w.heap.size, 0, none⟩ 1 1 [.int .i64 0, .int .u32 0, .int .i64 0] rfl rfl (cells_new3 w _ _ _ _) (by simp [Value.oneCell']) (by unfold maxLen; omega) (by omega) (by omega) ?_); intro v' w1 hown' hgrow _ hblk; obtain ⟨g', cap', rfl⟩ := ownsRow_succ hown'; obtain ⟨hb1, hg't⟩ := grown_table htl hoff.out hgrow hblk; have hc2' := (World.cell?_of_block (a := ⟨t, 2, none⟩) hb1).trans h2; have hf2' := (World.frozen?_of_block (a := ⟨t, 2, none⟩) hb1).trans hf2; have hH1 := Lib.hid hown'; have hH2 := Lib.hid hgrow; have hH3 := Lib.hid hblk; have hH4 := Lib.hid hb1; clear hown' hgrow hblk hb1)
        have hcW0 : (w1.setCell ⟨t, 2, none⟩ (.slice (some ⟨g', 0, none⟩) (sl.length + 1) cap')).cell? ⟨t, 0, none⟩ = some (.int .i64 (most : Nat)) := (World.cell?_setCell_other _ _ _ _ (by simp)).trans ((World.cell?_of_block (a := ⟨t, 0, none⟩) hH4.out).trans h0)
        have hcW1 : (w1.setCell ⟨t, 2, none⟩ (.slice (some ⟨g', 0, none⟩) (sl.length + 1) cap')).cell? ⟨t, 1, none⟩ = w.cell? ⟨t, 1, none⟩ := (World.cell?_setCell_other _ _ _ _ (by simp)).trans (World.cell?_of_block (a := ⟨t, 1, none⟩) hH4.out)
        have hcW2 : (w1.setCell ⟨t, 2, none⟩ (.slice (some ⟨g', 0, none⟩) (sl.length + 1) cap')).cell? ⟨t, 2, none⟩ = some (.slice (some ⟨g', 0, none⟩) (sl.length + 1) cap') := World.cell?_setCell_same' _ _ _ (by rw [hc2']; rfl)
        have hfW2 : (w1.setCell ⟨t, 2, none⟩ (.slice (some ⟨g', 0, none⟩) (sl.length + 1) cap')).frozen? ⟨t, 2, none⟩ = false := by simpa using hf2'
        have hrW := hH1.out.kept (w' := w1.setCell ⟨t, 2, none⟩ (.slice (some ⟨g', 0, none⟩) (sl.length + 1) cap')) (grownBy_setCell'' w1 t 2 (.slice (some ⟨g', 0, none⟩) (sl.length + 1) cap')) (.inr (by simp [Value.ownBlock, hg't]))
        rw [show slCells sl ++ [Value.int IntKind.i64 0, Value.int IntKind.u32 0, Value.int IntKind.i64 0] = slCells (sl ++ [⟨0, 0, 0⟩]) from (slCells_snoc sl ⟨0, 0, 0⟩).symm] at hrW
        have hlen1 : (sl ++ [(⟨0, 0, 0⟩ : Sl)]).length = sl.length + 1 := by simp
        have hTW : Turn w (HTabF t (.slice A sl.length c)) (w1.setCell ⟨t, 2, none⟩ (.slice (some ⟨g', 0, none⟩) (sl.length + 1) cap')) (HTabF t (.slice (some ⟨g', 0, none⟩) (sl.length + 1) cap')) := grown_turn htl hH2.out hH3.out
        have hTWH := Lib.hid hTW
        have hrWH := Lib.hid hrW
        have x1 : (w1.setCell ⟨t, 2, none⟩ (.slice (some ⟨g', 0, none⟩) (sl.length + 1) cap')).cell? ⟨g', sl.length * 3 + 1, none⟩ = some (.int .u32 0) := by
          rw [hrW.cellAt _ (by omega)]
          have := slCells_at (sl ++ [(⟨0, 0, 0⟩ : Sl)]) sl.length (by simp) 1 (by omega)
          rw [show sl.length * 3 + 1 = 3 * sl.length + 1 by omega, this]
          simp
        have x0 : (w1.setCell ⟨t, 2, none⟩ (.slice (some ⟨g', 0, none⟩) (sl.length + 1) cap')).cell? ⟨g', sl.length * 3, none⟩ = some (.int .i64 0) := by
          rw [hrW.cellAt _ (by omega)]
          have := slCells_at (sl ++ [(⟨0, 0, 0⟩ : Sl)]) sl.length (by simp) 0 (by omega)
          rw [show sl.length * 3 = 3 * sl.length + 0 by omega, this]
          simp
        have x2 : (w1.setCell ⟨t, 2, none⟩ (.slice (some ⟨g', 0, none⟩) (sl.length + 1) cap')).cell? ⟨g', sl.length * 3 + 2, none⟩ = some (.int .i64 0) := by
          rw [hrW.cellAt _ (by omega)]
          have := slCells_at (sl ++ [(⟨0, 0, 0⟩ : Sl)]) sl.length (by simp) 2 (by omega)
          rw [show sl.length * 3 + 2 = 3 * sl.length + 2 by omega, this]
          simp
        have z0 := hrW.frozenAt (sl.length * 3)
        have z1 := hrW.frozenAt (sl.length * 3 + 1)
        have z2 := hrW.frozenAt (sl.length * 3 + 2)
        have hcW1H := Lib.hid hcW1
        clear hrW hTW hc2' hf2' hcW1
        generalize (w1.setCell ⟨t, 2, none⟩ (.slice (some ⟨g', 0, none⟩) (sl.length + 1) cap')) = W2 at *
        have hset : Hid (∀ W : World, W.heap[t]? = W2.heap[t]? → W.ownsRow 0 209 3 (.slice (some ⟨g', 0, none⟩) (sl.length + 1) cap') (sl.length + 1) ((((slCells (sl ++ [⟨0, 0, 0⟩])).set (sl.length * 3) (.int .i64 (1 : Nat))).set (sl.length * 3 + 1) (.int .u32 (0 + 1 : Nat))).set (sl.length * 3 + 2) (.int .i64 (addr : Nat))) →
            HTab W t (.slice (some ⟨g', 0, none⟩) (sl.length + 1) cap') most last (sl ++ [⟨1, 0 + 1, addr⟩])) := Lib.hid (fun W hb hr => by
          have hl1 := HT.out.l1
          have h8 := HT.out.setAll (w' := W) (k := sl.length) (sl0 := sl ++ [(⟨0, 0, 0⟩ : Sl)]) (g := g') (c := cap') (by simp) ⟨1, 0 + 1, addr⟩ (slOk_open (by omega) ha) (fun x hx => by simpa using hx) (fun x hx => by
            rw [List.set_append_right _ _ (Nat.le_refl _)] at hx
            simpa using hx) (by rw [hlen1]; have := hmH.out; omega) (((World.cell?_of_block (a := ⟨t, 0, none⟩) hb).trans hcW0).trans h0.symm) ((World.cell?_of_block (a := ⟨t, 1, none⟩) hb).trans hcW1H.out) (by rw [hlen1]; exact (World.cell?_of_block (a := ⟨t, 2, none⟩) hb).trans hcW2) ((World.frozen?_of_block (a := ⟨t, 2, none⟩) hb).trans hfW2) hg't (by rw [hlen1]; exact hr)
          rw [hlen1, List.set_append_right _ _ (Nat.le_refl _)] at h8
          simpa using h8)
        have hgF2 : HTabF t (.slice (some ⟨g', 0, none⟩) (sl.length + 1) cap') g' := .inr rfl
        have hlenH := Lib.hid hlen1
        clear hlen1 h2 h0 hH4
        refine wp_region_quiet_tail 17 (by kernel_rfl) (by kernel_rfl) ?_
        simp only [List.take_succ_cons, List.take_zero, List.drop_succ_cons, List.drop_zero]
        repeat (go_big_quiet_step (fail))
        refine wpQuiet_nil ?_
        rintro _ ⟨nq, rfl⟩
        have hW := Lib.hid (hset.out _ (block_set3 nq g' t (sl.length * 3) (sl.length * 3 + 1) (sl.length * 3 + 2) (.int .i64 1) (.int .u32 1) (.int .i64 (addr : Nat)) (Ne.symm hg't)) (row_set3 hrWH.out nq (sl.length * 3) (sl.length * 3 + 1) (sl.length * 3 + 2) (.int .i64 1) (.int .u32 1) (.int .i64 (addr : Nat))))
        have hTn := Lib.hid (hTWH.out.trans (turn_set3 (w := W2) nq g' (sl.length * 3) (sl.length * 3 + 1) (sl.length * 3 + 2) (.int .i64 1) (.int .u32 1) (.int .i64 (addr : Nat)) hgF2))
        have hNm := name_at hW.out (k := sl.length) (by simp)
        rw [List.getElem_concat_length (by rfl)] at hNm
        have hNmH := Lib.hid hNm
        clear hNm hset
        go_wp2_with fail
        refine hNmH.out.mono ?_
        rintro e w' ⟨rfl, rfl⟩
        go_wp2
        go_ret2
        exact .inl ⟨sl.length, 1, _, _, ⟨.inr ⟨rfl, rfl, rfl⟩⟩, rfl, hW.out, hTn.out⟩
end Go.Proofs.YtjpmlneihbckpaaGreatDoor
/- The store as one word: its records by handles. -/
set_option linter.unusedVariables false
set_option linter.unusedSimpArgs false
namespace Go.Proofs.YtjpmlneihbckpaaGreatDoor
open Go.RowKit Go.Shelf
/-- a record's block -/
structure RecAt (L : HL) (mem : Nat → Nat) (h addr : Nat) (ws : List Nat) : Prop where
  blk : (addr, bszN (ws.length + 2)) ∈ blocks L
  h0 : mem addr = h
  h1 : mem (addr + 1) = ws.length
  wd : ∀ i (hi : i < ws.length), mem (addr + 2 + i) = ws[i]
  len : ws.length ≤ 3998
theorem RecAt.lt {L : HL} {mem : Nat → Nat} {h addr : Nat} {ws : List Nat} (r : RecAt L mem h addr ws) {i : Nat} (hi : i < ws.length + 2) : addr + i < addr + bszN (ws.length + 2) := by
  have := bszN_ge (ws.length + 2)
  omega
/-- the store of struct s, and all that it is made of -/
structure StIn (w : World) (s : Nat) (F : Nat → Prop) (R : Nat → Option (List Nat)) (H : List Nat) (P q most last G a ha t : Nat) (v : Value) (L : HL) (mem : Nat → Nat) (sl : List Sl) (Fh : Nat → Prop) : Prop where
  ca : w.cell? ⟨s, 2, none⟩ = some (.pointer (some ⟨a, 0, none⟩))
  ch : w.cell? ⟨s, 3, none⟩ = some (.pointer (some ⟨ha, 0, none⟩))
  ct : w.cell? ⟨s, 4, none⟩ = some (.pointer (some ⟨t, 0, none⟩))
  heap : HeapIs w ha a Fh L q mem
  tab : HTab w t v most last sl
  F_eq : F = fun b => Fh b ∨ HTabF t v b
  apart : ∀ b, Fh b → ¬ HTabF t v b
  soff : ¬ F s
  haoff : ¬ HTabF t v ha
  tboff : ∀ b, HTabF t v b → 1 < b
  link : ∀ h k (n : Names sl h k), ∃ ws, R h = some ws ∧ RecAt L mem h (sl[k]'n.lt).addr ws
  inH : ∀ h, h ∈ H ↔ ∃ k, Names sl h k
  none' : ∀ h, h ∉ H → R h = none
  perm : H.Perm ((blocks L).map fun b => mem b.1)
  nodup : H.Nodup
  pages : (runs L).length ≤ P
  gens : ∀ x ∈ sl, x.gen ≤ G
  ret : ∀ x ∈ sl, x.is = 2 → x.gen = last
def StoreIs (w : World) (s : Nat) (F : Nat → Prop) (R : Nat → Option (List Nat)) (H : List Nat) (P q most last G : Nat) : Prop :=
  ∃ a ha t v L mem sl Fh, StIn w s F R H P q most last G a ha t v L mem sl Fh
section
variable {w w' : World} {s : Nat} {F : Nat → Prop} {R : Nat → Option (List Nat)} {H : List Nat} {P q most last G a ha t : Nat} {v : Value} {L : HL} {mem : Nat → Nat} {sl : List Sl} {Fh : Nat → Prop}
theorem StIn.below (h : StIn w s F R H P q most last G a ha t v L mem sl Fh) (hb : Below w.heap.size w w') : StIn w' s F R H P q most last G a ha t v L mem sl Fh :=
  { h with
    ca := (hb.cell (p := ⟨s, 2, none⟩) (cell_lt h.ca)).trans h.ca
    ch := (hb.cell (p := ⟨s, 3, none⟩) (cell_lt h.ch)).trans h.ch
    ct := (hb.cell (p := ⟨s, 4, none⟩) (cell_lt h.ct)).trans h.ct
    heap := h.heap.below hb
    tab := h.tab.below hb }
theorem StoreIs.below (h : StoreIs w s F R H P q most last G) (hb : Below w.heap.size w w') : StoreIs w' s F R H P q most last G := by
  obtain ⟨a, ha, t, v, L, mem, sl, Fh, h⟩ := h
  exact ⟨a, ha, t, v, L, mem, sl, Fh, h.below hb⟩
theorem StIn.lt (h : StIn w s F R H P q most last G a ha t v L mem sl Fh) {b : Nat} (hb : F b) : b < w.heap.size := by
  have := h.F_eq
  subst this
  rcases hb with h1 | h1
  · exact h.heap.lt h1
  · exact h.tab.lt h1
theorem StoreIs.lt (h : StoreIs w s F R H P q most last G) {b : Nat} (hb : F b) : b < w.heap.size := by
  obtain ⟨a, ha, t, v, L, mem, sl, Fh, h⟩ := h
  exact h.lt hb
theorem StoreIs.s_lt (h : StoreIs w s F R H P q most last G) : s < w.heap.size := by
  obtain ⟨a, ha, t, v, L, mem, sl, Fh, h⟩ := h
  exact cell_lt (a := ⟨s, 2, none⟩) h.ca
theorem StoreIs.s_off (h : StoreIs w s F R H P q most last G) : ¬ F s := by
  obtain ⟨a, ha, t, v, L, mem, sl, Fh, h⟩ := h
  exact h.soff
/-- a step of other blocks leaves the store as it is -/
theorem StoreIs.turn {G1 G2 : Nat → Prop} (h : StoreIs w s F R H P q most last G) (ht : Turn w G1 w' G2) (hG : ∀ b, b < w.heap.size → ¬ G1 b) : StoreIs w' s F R H P q most last G :=
  h.below ⟨ht.os, ht.tape, ht.output, ht.size, fun k hk => ht.keep k hk (hG k hk)⟩
/-- a handle of the store: its record -/
theorem StIn.record (h : StIn w s F R H P q most last G a ha t v L mem sl Fh) {x : Nat} {ws : List Nat} (hR : R x = some ws) : ∃ k, ∃ n : Names sl x k, RecAt L mem x (sl[k]'n.lt).addr ws := by
  have hx : x ∈ H := by
    by_cases hx : x ∈ H
    · exact hx
    · rw [h.none' x hx] at hR; cases hR
  obtain ⟨k, n⟩ := (h.inH x).1 hx
  obtain ⟨ws', h1, h2⟩ := h.link x k n
  rw [hR] at h1
  cases h1
  exact ⟨k, n, h2⟩
theorem StIn.no (h : StIn w s F R H P q most last G a ha t v L mem sl Fh) {x : Nat} (hR : R x = none) : NoName sl x := fun k n => by
  obtain ⟨ws, h1, _⟩ := h.link x k n
  rw [hR] at h1; cases h1
theorem snone_at (h : StIn w s F R H P q most last G a ha t v L mem sl Fh) : Calls Tryz.prog 62 #[.pointer (some ⟨s, 0, none⟩)] w fun e w' => e = .returned (.bool false) ∧ w = w' := by
  have hca := h.ca
  clear h
  go_enter Tryz.func62, Tryz.ntmps62
  go_wp2
  go_ret
  exact ⟨rfl, rfl⟩
theorem snone_nil (w : World) : Calls Tryz.prog 62 #[.pointer none] w fun e w' => e = .returned (.bool true) ∧ w = w' := by
  go_enter Tryz.func62, Tryz.ntmps62
  go_wp2
  go_ret
  exact ⟨rfl, rfl⟩
theorem StIn.R64 (h : StIn w s F R H P q most last G a ha t v L mem sl Fh) {x : Nat} {ws : List Nat} (hR : R x = some ws) : x < 18446744073709551616 := by
  obtain ⟨k, n, _⟩ := h.record hR
  have h1 := n.gen n.lt
  have h2 := (h.tab.ok _ (List.getElem_mem n.lt)).hi
  have h3 := h.tab.l2
  have h4 := h.tab.len
  have h5 := h.tab.m2
  have h6 := n.lt
  unfold handleN at h1
  omega
set_option maxRecDepth 100000 in
theorem sat_hit (h : StIn w s F R H P q most last G a ha t v L mem sl Fh) {x k : Nat} {ws : List Nat} (n : Names sl x k) (hr : RecAt L mem x (sl[k]'n.lt).addr ws) :
    Calls Tryz.prog 81 #[.pointer (some ⟨s, 0, none⟩), .int .u64 (x : Nat)] w fun e w' => e = .returned (.tuple #[.int .i64 ((sl[k]'n.lt).addr : Nat), .int .i64 (ws.length : Nat), .int .i64 0]) ∧ w = w' := by
  have hN := Lib.hid (snone_at h)
  have hA := Lib.hid (hat_hit h.tab n n.lt)
  have hb2 := bszN_ge (ws.length + 2)
  have hR := read_is h.heap hr.blk ((sl[k]'n.lt).addr + 1) (by simp) (by simp only; omega)
  rw [hr.h1] at hR
  have hRH := Lib.hid hR
  have hca := h.ca
  have hct := h.ct
  have had := (h.tab.ok _ (List.getElem_mem n.lt)).addr
  have hl := hr.len
  generalize (sl[k]'n.lt).addr = addr at *
  clear h hr hR hb2 n
  go_enter Tryz.func81, Tryz.ntmps81
  go_wp2_with fail
  refine hN.out.mono ?_
  rintro e w' ⟨rfl, rfl⟩
  go_wp2_with fail
  refine hA.out.mono ?_
  rintro e w' ⟨rfl, rfl⟩
  go_wp2_with fail
  rw [show ((addr : Int) + 1) = ((addr + 1 : Nat) : Int) by push_cast; rfl]
  refine hRH.out.mono ?_
  rintro e w' ⟨rfl, rfl⟩
  go_wp2
  go_ret3
  exact ⟨rfl, rfl⟩
set_option maxRecDepth 100000 in
theorem sat_miss (h : StIn w s F R H P q most last G a ha t v L mem sl Fh) {x : Nat} (hx : x < 18446744073709551616) (hn : NoName sl x) :
    Calls Tryz.prog 81 #[.pointer (some ⟨s, 0, none⟩), .int .u64 (x : Nat)] w fun e w' => e = .returned (.tuple #[.int .i64 0, .int .i64 0, .int .i64 7]) ∧ w = w' := by
  have hN := Lib.hid (snone_at h)
  have hA := Lib.hid (hat_miss h.tab hx hn)
  have hca := h.ca
  have hct := h.ct
  clear h hn hx
  go_enter Tryz.func81, Tryz.ntmps81
  go_wp2_with fail
  refine hN.out.mono ?_
  rintro e w' ⟨rfl, rfl⟩
  go_wp2_with fail
  refine hA.out.mono ?_
  rintro e w' ⟨rfl, rfl⟩
  go_wp2
  go_ret3
  exact ⟨rfl, rfl⟩
set_option maxRecDepth 100000 in
theorem sat_nil (x : Nat) (w : World) :
    Calls Tryz.prog 81 #[.pointer none, .int .u64 (x : Nat)] w fun e w' => e = .returned (.tuple #[.int .i64 0, .int .i64 0, .int .i64 1]) ∧ w = w' := by
  go_enter Tryz.func81, Tryz.ntmps81
  go_wp2_with (go_at_call 62; refine (snone_nil _).mono ?_; rintro e w' ⟨rfl, rfl⟩)
  go_ret3
  exact ⟨rfl, rfl⟩
set_option maxRecDepth 100000 in
theorem slen_nil (x : Nat) (w : World) :
    Calls Tryz.prog 51 #[.pointer none, .int .u64 (x : Nat)] w fun e w' => e = .returned (.tuple #[.int .i64 0, .int .i64 1]) ∧ w = w' := by
  go_enter Tryz.func51, Tryz.ntmps51
  go_wp2_with (go_at_call 81; refine (sat_nil _ _).mono ?_; rintro e w' ⟨rfl, rfl⟩)
  go_ret2
  exact ⟨rfl, rfl⟩
/-- what Len answers -/
def lenR (R : Nat → Option (List Nat)) (x : Nat) : Value :=
  match R x with
  | some ws => .tuple #[.int .i64 (ws.length : Nat), .int .i64 0]
  | none => .tuple #[.int .i64 0, .int .i64 7]
set_option maxRecDepth 100000 in
theorem slen_at (h : StoreIs w s F R H P q most last G) (x : Nat) (hx : x < 18446744073709551616) :
    Calls Tryz.prog 51 #[.pointer (some ⟨s, 0, none⟩), .int .u64 (x : Nat)] w fun e w' => e = .returned (lenR R x) ∧ w = w' := by
  obtain ⟨a, ha, t, v, L, mem, sl, Fh, h⟩ := h
  unfold lenR
  cases hR : R x with
  | none =>
    have hA := Lib.hid (sat_miss h hx (h.no hR))
    clear h hR hx
    go_enter Tryz.func51, Tryz.ntmps51
    go_wp2_with (go_at_call 81; refine hA.out.mono ?_; rintro e w' ⟨rfl, rfl⟩)
    go_ret2
    exact ⟨rfl, rfl⟩
  | some ws =>
    obtain ⟨k, n, hr⟩ := h.record hR
    have hA := Lib.hid (sat_hit h n hr)
    generalize (sl[k]'n.lt).addr = addr at hA
    clear h hr n hR hx
    go_enter Tryz.func51, Tryz.ntmps51
    go_wp2_with (go_at_call 81; refine hA.out.mono ?_; rintro e w' ⟨rfl, rfl⟩)
    go_ret2
    exact ⟨rfl, rfl⟩
set_option maxRecDepth 100000 in
theorem splace_at (h : StIn w s F R H P q most last G a ha t v L mem sl Fh) {x k i : Nat} {ws : List Nat} (n : Names sl x k) (hr : RecAt L mem x (sl[k]'n.lt).addr ws) (hi : i < ws.length) :
    Calls Tryz.prog 97 #[.pointer (some ⟨s, 0, none⟩), .int .u64 (x : Nat), .int .i64 (i : Nat)] w fun e w' => e = .returned (.tuple #[.int .i64 ((sl[k]'n.lt).addr + 2 + i : Nat), .int .i64 0]) ∧ w = w' := by
  have hA := Lib.hid (sat_hit h n hr)
  have had := (h.tab.ok _ (List.getElem_mem n.lt)).addr
  have hl := hr.len
  generalize (sl[k]'n.lt).addr = addr at *
  clear h hr n
  go_enter Tryz.func97, Tryz.ntmps97
  go_wp2_with (go_at_call 81; refine hA.out.mono ?_; rintro e w' ⟨rfl, rfl⟩)
  go_ret2
  exact ⟨by rw [show ((addr + 2 + i : Nat) : Int) = (addr : Int) + 2 + (i : Int) by push_cast; rfl]; rfl, rfl⟩
set_option maxRecDepth 100000 in
theorem splace_miss (h : StIn w s F R H P q most last G a ha t v L mem sl Fh) {x i : Nat} (hx : x < 18446744073709551616) (hn : NoName sl x) :
    Calls Tryz.prog 97 #[.pointer (some ⟨s, 0, none⟩), .int .u64 (x : Nat), .int .i64 (i : Nat)] w fun e w' => e = .returned (.tuple #[.int .i64 0, .int .i64 7]) ∧ w = w' := by
  have hA := Lib.hid (sat_miss h hx hn)
  clear h hn hx
  go_enter Tryz.func97, Tryz.ntmps97
  go_wp2_with (go_at_call 81; refine hA.out.mono ?_; rintro e w' ⟨rfl, rfl⟩)
  go_ret2
  exact ⟨rfl, rfl⟩
set_option maxRecDepth 100000 in
theorem sget_at (h : StoreIs w s F R H P q most last G) {x i : Nat} {ws : List Nat} (hR : R x = some ws) (hi : i < ws.length) :
    Calls Tryz.prog 67 #[.pointer (some ⟨s, 0, none⟩), .int .u64 (x : Nat), .int .i64 (i : Nat)] w fun e w' => e = .returned (.tuple #[.int .u64 (ws[i] : Nat), .int .i64 0]) ∧ w = w' := by
  obtain ⟨a, ha, t, v, L, mem, sl, Fh, h⟩ := h
  obtain ⟨k, n, hr⟩ := h.record hR
  have hA := Lib.hid (splace_at h n hr hi)
  have hb2 := bszN_ge (ws.length + 2)
  have hRd := read_is h.heap hr.blk ((sl[k]'n.lt).addr + 2 + i) (by simp only; omega) (by simp only; omega)
  rw [hr.wd i hi] at hRd
  have hRH := Lib.hid hRd
  have hca := h.ca
  generalize (sl[k]'n.lt).addr = addr at *
  generalize ws[i] = word at *
  clear h hr n hR hRd hb2
  go_enter Tryz.func67, Tryz.ntmps67
  go_wp2_with fail
  refine hA.out.mono ?_
  rintro e w' ⟨rfl, rfl⟩
  go_wp2_with fail
  refine hRH.out.mono ?_
  rintro e w' ⟨rfl, rfl⟩
  go_wp2
  go_ret2
  exact ⟨rfl, rfl⟩
end
end Go.Proofs.YtjpmlneihbckpaaGreatDoor
/- The walks of the package store: Put, Drop. -/
set_option linter.unusedVariables false
set_option linter.unusedSimpArgs false
namespace Go.Proofs.YtjpmlneihbckpaaGreatDoor
open Go.RowKit Go.Shelf
def updR (R : Nat → Option (List Nat)) (x : Nat) (o : Option (List Nat)) : Nat → Option (List Nat) := fun y => if y = x then o else R y
theorem updR_same (R : Nat → Option (List Nat)) (x : Nat) (o : Option (List Nat)) : updR R x o x = o := if_pos rfl
theorem updR_other {R : Nat → Option (List Nat)} {x y : Nat} {o : Option (List Nat)} (h : y ≠ x) : updR R x o y = R y := if_neg h
theorem RecAt.same {L L' : HL} {mem mem' : Nat → Nat} {h addr : Nat} {ws : List Nat} (r : RecAt L mem h addr ws) (hb : (addr, bszN (ws.length + 2)) ∈ blocks L') (hm : ∀ i, addr ≤ i → i < addr + bszN (ws.length + 2) → mem' i = mem i) : RecAt L' mem' h addr ws := by
  have h2 := bszN_ge (ws.length + 2)
  refine ⟨hb, ?_, ?_, fun i hi => ?_, r.len⟩
  · rw [hm _ (Nat.le_refl _) (by omega), r.h0]
  · rw [hm _ (by omega) (by omega), r.h1]
  · rw [hm _ (by omega) (by omega), r.wd i hi]
theorem block_within_two {L : HL} (hl : Lay L) {b : Nat × Nat} (hb : b ∈ blocks L) : 2 ≤ b.2 := by
  obtain ⟨y, hy, hby⟩ := mem_blocks.1 hb
  exact (block_within (hl.ok y hy) hby).2.2
theorem recs_apart {L : HL} {mem : Nat → Nat} (hl : Lay L) {h h' addr addr' : Nat} {ws ws' : List Nat} (r : RecAt L mem h addr ws) (r' : RecAt L mem h' addr' ws') (hne : h ≠ h') :
    addr + bszN (ws.length + 2) ≤ addr' ∨ addr' + bszN (ws'.length + 2) ≤ addr := by
  rcases blocks_apart hl r.blk r'.blk with h1 | h1 | h1
  · have : addr = addr' := congrArg Prod.fst h1
    exact absurd (r.h0.symm.trans (by rw [this]; exact r'.h0)) hne
  · exact .inl h1
  · exact .inr h1
section
variable {w w' : World} {s : Nat} {F : Nat → Prop} {R : Nat → Option (List Nat)} {H : List Nat} {P q most last G a ha t : Nat} {v : Value} {L : HL} {mem : Nat → Nat} {sl : List Sl} {Fh : Nat → Prop}
theorem handleN_inj {g g' k k' : Nat} (hk : k < 65536) (hk' : k' < 65536) (h : handleN g k = handleN g' k') : g = g' ∧ k = k' := by
  unfold handleN at h; omega
theorem StIn.k_lt (h : StIn w s F R H P q most last G a ha t v L mem sl Fh) {k : Nat} (hk : k < sl.length) : k < 65536 := by
  have := h.tab.len; have := h.tab.m2; omega
theorem StIn.name_inj (h : StIn w s F R H P q most last G a ha t v L mem sl Fh) {x k k' : Nat} (n : Names sl x k) (n' : Names sl x k') : k = k' :=
  (handleN_inj (h.k_lt n.lt) (h.k_lt n'.lt) ((n.gen n.lt).symm.trans (n'.gen n'.lt))).2
theorem StIn.put (h : StIn w s F R H P q most last G a ha t v L mem sl Fh) {x k i u : Nat} {ws : List Nat} (n : Names sl x k) (hR : R x = some ws) (hr : RecAt L mem x (sl[k]'n.lt).addr ws) (hi : i < ws.length)
    (hh : HeapIs w' ha a Fh L q (upd mem ((sl[k]'n.lt).addr + 2 + i) u)) (ht : Turn w Fh w' Fh) :
    StIn w' s F (updR R x (some (ws.set i u))) H P q most last G a ha t v L (upd mem ((sl[k]'n.lt).addr + 2 + i) u) sl Fh ∧ Turn w F w' F := by
  have hF := h.F_eq
  subst hF
  have hsF : ¬ Fh s := fun hf => h.soff (.inl hf)
  have hb2 := bszN_ge (ws.length + 2)
  refine ⟨{ h with
    ca := ht.cell h.ca hsF
    ch := ht.cell h.ch hsF
    ct := ht.cell h.ct hsF
    heap := hh
    tab := h.tab.turn ht (fun b hb hf => h.apart b hf hb)
    F_eq := rfl
    link := fun y k' n' => ?_
    none' := fun y hy => ?_
    perm := ?_ }, ⟨ht.os, ht.tape, ht.output, ht.size, fun b hb hf => ht.keep b hb (fun hf' => hf (.inl hf')), fun b hb => .inl hb⟩⟩
  · by_cases hyx : y = x
    · subst hyx
      obtain rfl := h.name_inj n n'
      refine ⟨ws.set i u, updR_same _ _ _, ?_, ?_, ?_, fun j hj => ?_, ?_⟩
      · rw [List.length_set]; exact hr.blk
      · simp only [upd]; rw [if_neg (by omega)]; exact hr.h0
      · simp only [upd]; rw [if_neg (by omega), List.length_set]; exact hr.h1
      · rw [List.length_set] at hj
        simp only [upd]
        rw [List.getElem_set]
        by_cases hij : i = j
        · rw [if_pos (by omega), if_pos hij]
        · rw [if_neg (by omega), if_neg hij]; exact hr.wd j hj
      · rw [List.length_set]; exact hr.len
    · obtain ⟨ws', h1, h2⟩ := h.link y k' n'
      refine ⟨ws', (updR_other hyx).trans h1, h2.same h2.blk (fun j hj1 hj2 => ?_)⟩
      have := recs_apart h.heap.lay h2 hr hyx
      simp only [upd]
      rw [if_neg (by omega)]
  · by_cases hyx : y = x
    · subst hyx
      rw [h.none' y hy] at hR; cases hR
    · exact (updR_other hyx).trans (h.none' y hy)
  · have : ((blocks L).map fun b => upd mem ((sl[k]'n.lt).addr + 2 + i) u b.1) = (blocks L).map fun b => mem b.1 := by
      apply List.map_congr_left
      intro b hb
      simp only [upd]
      rw [if_neg]
      intro e
      have h3 := block_within_two h.heap.lay hb
      rcases blocks_apart h.heap.lay hb hr.blk with h4 | h4 | h4
      · have := congrArg Prod.fst h4; simp only at this; omega
      · simp only at h4; omega
      · simp only at h4; omega
    rw [this]
    exact h.perm
set_option maxRecDepth 100000 in
theorem sput_at (h : StoreIs w s F R H P q most last G) {x i u : Nat} {ws : List Nat} (hR : R x = some ws) (hi : i < ws.length) (hu : u < 18446744073709551616) :
    Calls Tryz.prog 69 #[.pointer (some ⟨s, 0, none⟩), .int .u64 (x : Nat), .int .i64 (i : Nat), .int .u64 (u : Nat)] w fun e w' => e = .returned (.int .i64 0) ∧ StoreIs w' s F (updR R x (some (ws.set i u))) H P q most last G ∧ Turn w F w' F := by
  obtain ⟨a, ha, t, v, L, mem, sl, Fh, h⟩ := h
  obtain ⟨k, n, hr⟩ := h.record hR
  have hA := Lib.hid (splace_at h n hr hi)
  have hb2 := bszN_ge (ws.length + 2)
  have hW := Lib.hid (write_is h.heap hr.blk ((sl[k]'n.lt).addr + 2 + i) u (by simp only; omega) (by simp only; omega) hu)
  have hP := Lib.hid (fun w' hh ht => h.put (w' := w') (u := u) n hR hr hi hh ht)
  have hca := h.ca
  generalize (sl[k]'n.lt).addr = addr at *
  clear h hr n hR hb2
  go_enter Tryz.func69, Tryz.ntmps69
  go_wp2_with fail
  refine hA.out.mono ?_
  rintro e w' ⟨rfl, rfl⟩
  go_wp2_with fail
  refine hW.out.mono ?_
  rintro e w' ⟨rfl, hh, ht⟩
  obtain ⟨h1, h2⟩ := hP.out w' hh ht
  have h1H := Lib.hid h1
  have h2H := Lib.hid h2
  clear h1 h2 hh ht
  go_wp2
  go_ret
  exact ⟨rfl, ⟨_, _, _, _, _, _, _, _, h1H.out⟩, h2H.out⟩
end
end Go.Proofs.YtjpmlneihbckpaaGreatDoor
/- What making and dropping a record does to the store. -/
set_option linter.unusedVariables false
set_option linter.unusedSimpArgs false
namespace Go.Proofs.YtjpmlneihbckpaaGreatDoor
open Go.RowKit Go.Shelf
theorem Turn.left {w w' : World} {A A' B : Nat → Prop} (h : Turn w A w' A') : Turn w (fun b => A b ∨ B b) w' (fun b => A' b ∨ B b) :=
  ⟨h.os, h.tape, h.output, h.size, fun k hk hn => h.keep k hk (fun ha => hn (.inl ha)), fun k hk => by
    rcases hk with h1 | h1
    · rcases h.grow k h1 with h2 | h2
      · exact .inl (.inl h2)
      · exact .inr h2
    · exact .inl (.inr h1)⟩
theorem Turn.right {w w' : World} {A B B' : Nat → Prop} (h : Turn w B w' B') : Turn w (fun b => A b ∨ B b) w' (fun b => A b ∨ B' b) :=
  ⟨h.os, h.tape, h.output, h.size, fun k hk hn => h.keep k hk (fun ha => hn (.inr ha)), fun k hk => by
    rcases hk with h1 | h1
    · exact .inl (.inl h1)
    · rcases h.grow k h1 with h2 | h2
      · exact .inl (.inr h2)
      · exact .inr h2⟩
theorem names_set {sl : List Sl} {k : Nat} {s' : Sl} (hk : k < sl.length) {y k' : Nat} (hne : k' ≠ k) : Names (sl.set k s') y k' ↔ Names sl y k' := by
  constructor
  · intro n
    have hl := n.lt
    rw [List.length_set] at hl
    refine ⟨hl, fun h => ?_, fun h => ?_⟩
    · have := n.is n.lt; rwa [List.getElem_set_ne (Ne.symm hne)] at this
    · have := n.gen n.lt; rwa [List.getElem_set_ne (Ne.symm hne)] at this
  · intro n
    refine ⟨by rw [List.length_set]; exact n.lt, fun h => ?_, fun h => ?_⟩
    · rw [List.getElem_set_ne (Ne.symm hne)]; exact n.is n.lt
    · rw [List.getElem_set_ne (Ne.symm hne)]; exact n.gen n.lt
theorem names_closed {sl : List Sl} {k : Nat} {s' : Sl} (hk : k < sl.length) (hs : s'.is ≠ 1) {y k' : Nat} : Names (sl.set k s') y k' ↔ Names sl y k' ∧ k' ≠ k := by
  by_cases hne : k' = k
  · subst hne
    constructor
    · intro n
      have := n.is n.lt
      rw [List.getElem_set_self] at this
      exact absurd this hs
    · intro h; exact absurd rfl h.2
  · rw [names_set hk hne]
    exact ⟨fun h => ⟨h, hne⟩, fun h => h.1⟩
theorem names_append {sl : List Sl} {s' : Sl} {y k' : Nat} (hlt : k' < sl.length) : Names (sl ++ [s']) y k' ↔ Names sl y k' := by
  constructor
  · intro n
    refine ⟨hlt, fun h => ?_, fun h => ?_⟩
    · have := n.is n.lt; rwa [List.getElem_append_left hlt] at this
    · have := n.gen n.lt; rwa [List.getElem_append_left hlt] at this
  · intro n
    refine ⟨by rw [List.length_append]; omega, fun h => ?_, fun h => ?_⟩
    · rw [List.getElem_append_left hlt]; exact n.is hlt
    · rw [List.getElem_append_left hlt]; exact n.gen hlt
/-- after an opening: the names are those that there were, and one more -/
theorem names_opened {sl sl' : List Sl} {addr k g : Nat} (o : Opened sl addr k g sl') {y k' : Nat} : Names sl' y k' ↔ Names sl y k' ∨ (k' = k ∧ y = handleN g k) := by
  rcases o.hit with ⟨hk, h0, rfl, rfl⟩ | ⟨rfl, rfl, rfl⟩
  · by_cases hne : k' = k
    · subst hne
      constructor
      · intro n
        have := n.gen n.lt
        rw [List.getElem_set_self] at this
        exact .inr ⟨rfl, this⟩
      · rintro (n | ⟨_, rfl⟩)
        · have := n.is n.lt; omega
        · refine ⟨by rw [List.length_set]; exact hk, fun h => ?_, fun h => ?_⟩ <;> rw [List.getElem_set_self]
    · rw [names_set hk hne]
      exact ⟨.inl, fun h => h.resolve_right (fun h => hne h.1)⟩
  · by_cases hlt : k' < sl.length
    · rw [names_append hlt]
      exact ⟨.inl, fun h => h.resolve_right (fun h => by omega)⟩
    · constructor
      · intro n
        have hl := n.lt
        rw [List.length_append] at hl
        simp at hl
        have hk' : k' = sl.length := by omega
        subst hk'
        have := n.gen n.lt
        rw [List.getElem_concat_length (by rfl)] at this
        exact .inr ⟨rfl, this⟩
      · rintro (n | ⟨rfl, rfl⟩)
        · exact absurd n.lt hlt
        · refine ⟨by simp, fun h => ?_, fun h => ?_⟩ <;> rw [List.getElem_concat_length (by rfl)]
theorem opened_addr {sl sl' : List Sl} {addr k g : Nat} (o : Opened sl addr k g sl') : ∃ h : k < sl'.length, sl'[k] = ⟨1, g, addr⟩ := by
  rcases o.hit with ⟨hk, h0, rfl, rfl⟩ | ⟨rfl, rfl, rfl⟩
  · exact ⟨by rw [List.length_set]; exact hk, List.getElem_set_self _⟩
  · exact ⟨by simp, List.getElem_concat_length (by rfl) _⟩
theorem opened_old {sl sl' : List Sl} {addr k g : Nat} (o : Opened sl addr k g sl') {y k' : Nat} (n : Names sl y k') : ∃ h : k' < sl'.length, sl'[k'] = sl[k']'n.lt := by
  have hlt := n.lt
  rcases o.hit with ⟨hk, h0, rfl, rfl⟩ | ⟨rfl, rfl, rfl⟩
  · have hne : k ≠ k' := by rintro rfl; have := n.is n.lt; omega
    exact ⟨by rw [List.length_set]; exact hlt, List.getElem_set_ne hne _⟩
  · exact ⟨by rw [List.length_append]; omega, List.getElem_append_left hlt⟩
theorem opened_mem {sl sl' : List Sl} {addr k g : Nat} (o : Opened sl addr k g sl') {x : Sl} (hx : x ∈ sl') : x ∈ sl ∨ x = ⟨1, g, addr⟩ := by
  rcases o.hit with ⟨hk, h0, rfl, rfl⟩ | ⟨rfl, rfl, rfl⟩
  · exact List.mem_or_eq_of_mem_set hx
  · simpa using hx
theorem opened_gen {sl sl' : List Sl} {addr k g G : Nat} (o : Opened sl addr k g sl') (hG : ∀ x ∈ sl, x.gen ≤ G) : g ≤ G + 1 := by
  rcases o.hit with ⟨hk, h0, rfl, rfl⟩ | ⟨rfl, rfl, rfl⟩
  · have := hG _ (List.getElem_mem hk); omega
  · omega
section
variable {w w' : World} {s : Nat} {F : Nat → Prop} {R : Nat → Option (List Nat)} {H : List Nat} {P q most last G a ha t : Nat} {v v' : Value} {L L' : HL} {mem mem' : Nat → Nat} {sl sl' : List Sl} {Fh Fh' : Nat → Prop}
/-- the heap has turned, and holds the same blocks -/
theorem StIn.reheap (h : StIn w s F R H P q most last G a ha t v L mem sl Fh) (hh : HeapIs w' ha a Fh' L' q mem') (ht : Turn w Fh w' Fh') (hp : (blocks L').Perm (blocks L)) (hm : ∀ c ∈ blocks L, ∀ i, c.1 ≤ i → i < c.1 + c.2 → mem' i = mem i) {P' : Nat} (hP : (runs L').length ≤ P') :
    StIn w' s (fun b => Fh' b ∨ HTabF t v b) R H P' q most last G a ha t v L' mem' sl Fh' ∧ Turn w F w' (fun b => Fh' b ∨ HTabF t v b) := by
  have hF := h.F_eq
  subst hF
  have hsF : ¬ Fh s := fun hf => h.soff (.inl hf)
  have hslt : s < w.heap.size := cell_lt (a := ⟨s, 2, none⟩) h.ca
  refine ⟨{ h with
    ca := ht.cell h.ca hsF
    ch := ht.cell h.ch hsF
    ct := ht.cell h.ct hsF
    heap := hh
    tab := h.tab.turn ht (fun b hb hf => h.apart b hf hb)
    F_eq := rfl
    apart := fun b hb ht' => ht.not (h.tab.lt ht') (fun hf => h.apart b hf ht') hb
    soff := fun hf => hf.elim (fun hf => ht.not hslt hsF hf) (fun hf => h.soff (.inr hf))
    link := fun y k n => ?_
    perm := ?_
    pages := hP }, ht.left⟩
  · obtain ⟨ws, h1, h2⟩ := h.link y k n
    exact ⟨ws, h1, h2.same (hp.mem_iff.2 h2.blk) (hm _ h2.blk)⟩
  · have h1 : ((blocks L').map fun b => mem' b.1).Perm ((blocks L).map fun b => mem' b.1) := hp.map _
    have h2 : ((blocks L).map fun b => mem' b.1) = (blocks L).map fun b => mem b.1 := List.map_congr_left fun b hb => hm b hb b.1 (Nat.le_refl _) (by have := block_within_two h.heap.lay hb; omega)
    rw [h2] at h1
    exact h.perm.trans h1.symm
/-- a record more -/
theorem StIn.make {X : Nat → Prop} (h : StIn w s F R H P q most last G a ha t v L mem sl Fh) {w1 w2 w3 : World} {addr n k g : Nat} {mem1 : Nat → Nat} (hn : n ≤ 3998)
    (t1 : Turn w Fh w1 Fh') (hgot : Got L mem addr (n + 2) L' mem1) (o : Opened sl addr k g sl') (hT : HTab w2 t v' most last sl') (t2 : Turn w1 (HTabF t v) w2 (HTabF t v'))
    (t3 : Turn w2 (fun b => Fh' b ∨ X b) w3 (fun b => Fh' b ∨ X b)) (hX : ∀ b, X b → w.heap.size ≤ b ∧ ¬ HTabF t v' b) (hh : HeapIs w3 ha a Fh' L' q (upd (upd mem1 addr (handleN g k)) (addr + 1) n)) (hlt1 : ∀ b, Fh' b → b < w1.heap.size) :
    StIn w3 s (fun b => Fh' b ∨ HTabF t v' b) (updR R (handleN g k) (some (List.replicate n 0))) (handleN g k :: H) (P + pgsN (n + 2)) q most last (G + 1) a ha t v' L' (upd (upd mem1 addr (handleN g k)) (addr + 1) n) sl' Fh' ∧
    Turn w F w3 (fun b => Fh' b ∨ HTabF t v' b) ∧ R (handleN g k) = none := by
  have hF := h.F_eq
  subst hF
  have hsF : ¬ Fh s := fun hf => h.soff (.inl hf)
  have hsT : ¬ HTabF t v s := fun hf => h.soff (.inr hf)
  have hslt : s < w.heap.size := cell_lt (a := ⟨s, 2, none⟩) h.ca
  have hs1 : ¬ Fh' s := t1.not hslt hsF
  have hs2 : ¬ HTabF t v' s := t2.not (Nat.lt_of_lt_of_le hslt t1.size) hsT
  have hap : ∀ b, Fh' b → ¬ HTabF t v' b := fun b hf hb => by
    rcases t2.grow b hb with h1 | h1
    · exact t1.not (h.tab.lt h1) (fun hf => h.apart b hf h1) hf
    · have := hlt1 b hf; omega
  have hsX : ¬ (Fh' s ∨ X s) := fun hf => hf.elim hs1 (fun hx => by have := (hX s hx).1; omega)
  have h12 := t1.left.trans t2.right
  have ht3 : Turn w (fun b => Fh b ∨ HTabF t v b) w3 (fun b => Fh' b ∨ HTabF t v' b) :=
    ⟨t3.os.trans h12.os, t3.tape.trans h12.tape, t3.output.trans h12.output, Nat.le_trans h12.size t3.size, fun k hk hn => by
      refine (t3.keep k (Nat.lt_of_lt_of_le hk h12.size) (fun hf => ?_)).trans (h12.keep k hk hn)
      rcases hf with hf | hf
      · exact t1.not hk (fun hh => hn (.inl hh)) hf
      · have := (hX k hf).1; omega, h12.grow⟩
  have hb2 := bszN_ge (n + 2)
  have hmm : ∀ i, i ≠ addr → i ≠ addr + 1 → upd (upd mem1 addr (handleN g k)) (addr + 1) n i = mem1 i := fun i h1 h2 => by
    simp only [upd]; rw [if_neg h2, if_neg h1]
  have hnew : (addr, bszN (n + 2)) ∈ blocks L' := hgot.perm.mem_iff.2 List.mem_cons_self
  have hnd := hgot.perm.nodup_iff.1 (blocks_nodup hh.lay)
  rw [List.nodup_cons] at hnd
  have hold : ∀ c ∈ blocks L, c ∈ blocks L' ∧ ∀ i, c.1 ≤ i → i < c.1 + c.2 → upd (upd mem1 addr (handleN g k)) (addr + 1) n i = mem i := fun c hc => by
    have hc' : c ∈ blocks L' := hgot.perm.mem_iff.2 (List.mem_cons_of_mem _ hc)
    refine ⟨hc', fun i h1 h2 => ?_⟩
    have := blocks_apart hh.lay hc' hnew
    have hne : c ≠ (addr, bszN (n + 2)) := fun e => hnd.1 (e ▸ hc)
    rcases this with h3 | h3 | h3
    · exact absurd h3 hne
    · simp only at h3
      rw [hmm i (by omega) (by omega)]
      exact hgot.same c hc i h1 h2
    · simp only at h3
      rw [hmm i (by omega) (by omega)]
      exact hgot.same c hc i h1 h2
  have hkl : k < 65536 := by
    obtain ⟨hk, _⟩ := opened_addr o
    have := hT.len; have := hT.m2; omega
  have hfresh : ∀ k', ¬ Names sl (handleN g k) k' := fun k' n' => by
    have h3 := handleN_inj hkl (h.k_lt n'.lt) (n'.gen n'.lt)
    have h4 := h3.2
    subst h4
    rcases o.hit with ⟨hk, h0, _, _⟩ | ⟨rfl, _, _⟩
    · have := n'.is n'.lt; omega
    · exact absurd n'.lt (Nat.lt_irrefl _)
  have hfH : handleN g k ∉ H := fun hm => by
    obtain ⟨k', n'⟩ := (h.inH _).1 hm
    exact hfresh k' n'
  refine ⟨{
    ca := t3.cell (t2.cell (t1.cell h.ca hsF) hsT) hsX
    ch := t3.cell (t2.cell (t1.cell h.ch hsF) hsT) hsX
    ct := t3.cell (t2.cell (t1.cell h.ct hsF) hsT) hsX
    heap := hh
    tab := hT.turn t3 (fun b hb hf => hf.elim (fun hf => hap b hf hb) (fun hf => (hX b hf).2 hb))
    F_eq := rfl
    apart := hap
    soff := fun hf => hf.elim hs1 hs2
    haoff := t2.not (Nat.lt_of_lt_of_le h.heap.off.2.1 t1.size) h.haoff
    tboff := fun b hb => ?_
    link := fun y k' n' => ?_
    inH := fun y => ?_
    none' := fun y hy => ?_
    perm := ?_
    nodup := List.nodup_cons.2 ⟨hfH, h.nodup⟩
    pages := by have := hgot.pages; have := h.pages; omega
    gens := fun x hx => ?_
    ret := fun x hx h2 => ?_ }, ht3, h.none' _ hfH⟩
  · rcases t2.grow b hb with h1 | h1
    · exact h.tboff b h1
    · have h2 := h.heap.off
      have h3 := h2.2.2.2 a h2.2.2.1
      have h4 := h.heap.lt h2.2.2.1
      have := t1.size
      omega
  · rcases (names_opened o).1 n' with n1 | ⟨rfl, rfl⟩
    · have hne : y ≠ handleN g k := fun e => hfresh k' (e ▸ n1)
      obtain ⟨ws, h1, h2⟩ := h.link y k' n1
      obtain ⟨hk', he⟩ := opened_old o n1
      refine ⟨ws, (updR_other hne).trans h1, ?_⟩
      rw [he]
      exact h2.same (hold _ h2.blk).1 (hold _ h2.blk).2
    · obtain ⟨hk', he⟩ := opened_addr o
      refine ⟨List.replicate n 0, updR_same _ _ _, ?_⟩
      rw [he]
      refine ⟨by rw [List.length_replicate]; exact hnew, ?_, ?_, fun i hi => ?_, by rw [List.length_replicate]; exact hn⟩
      · simp only [upd]; rw [if_neg (by omega), if_pos trivial]
      · simp only [upd]; rw [if_pos trivial, List.length_replicate]
      · rw [List.length_replicate] at hi
        rw [hmm _ (by simp only; omega) (by simp only; omega), List.getElem_replicate]
        exact hgot.zero _ (by simp only; omega) (by simp only; omega)
  · rw [List.mem_cons]
    constructor
    · rintro (rfl | hy)
      · exact ⟨k, (names_opened o).2 (.inr ⟨rfl, rfl⟩)⟩
      · obtain ⟨k', n'⟩ := (h.inH y).1 hy
        exact ⟨k', (names_opened o).2 (.inl n')⟩
    · rintro ⟨k', n'⟩
      rcases (names_opened o).1 n' with n1 | ⟨rfl, rfl⟩
      · exact .inr ((h.inH y).2 ⟨k', n1⟩)
      · exact .inl rfl
  · rw [List.mem_cons, not_or] at hy
    exact (updR_other hy.1).trans (h.none' y hy.2)
  · have h1 : ((blocks L').map fun b => upd (upd mem1 addr (handleN g k)) (addr + 1) n b.1).Perm (((addr, bszN (n + 2)) :: blocks L).map fun b => upd (upd mem1 addr (handleN g k)) (addr + 1) n b.1) := hgot.perm.map _
    rw [List.map_cons] at h1
    have h2 : ((blocks L).map fun b => upd (upd mem1 addr (handleN g k)) (addr + 1) n b.1) = (blocks L).map fun b => mem b.1 :=
      List.map_congr_left fun b hb => (hold b hb).2 b.1 (Nat.le_refl _) (by have := block_within_two h.heap.lay hb; omega)
    have h3 : upd (upd mem1 addr (handleN g k)) (addr + 1) n addr = handleN g k := by simp only [upd]; rw [if_neg (by omega), if_pos trivial]
    rw [h2] at h1
    simp only [h3] at h1
    exact (h.perm.cons _).trans h1.symm
  · rcases opened_mem o hx with h1 | rfl
    · have := h.gens x h1; omega
    · exact opened_gen o h.gens
  · rcases opened_mem o hx with h1 | rfl
    · exact h.ret x h1 h2
    · cases h2
/-- a record less -/
theorem StIn.drop (h : StIn w s F R H P q most last G a ha t v L mem sl Fh) {w1 w2 : World} {x k : Nat} {ws : List Nat} (n : Names sl x k) (hR : R x = some ws) (hr : RecAt L mem x (sl[k]'n.lt).addr ws)
    (hh : HeapIs w1 ha a Fh' L' q mem') (t1 : Turn w Fh w1 Fh') (hf : Freed L mem ((sl[k]'n.lt).addr, bszN (ws.length + 2)) L' mem')
    (hT : HTab w2 t v most last (sl.set k { (sl[k]'n.lt) with is := closedIs (sl[k]'n.lt).gen last })) (t2 : Turn w1 (HTabF t v) w2 (HTabF t v)) :
    StIn w2 s (fun b => Fh' b ∨ HTabF t v b) (updR R x none) (H.erase x) P q most last G a ha t v L' mem' (sl.set k { (sl[k]'n.lt) with is := closedIs (sl[k]'n.lt).gen last }) Fh' ∧ Turn w F w2 (fun b => Fh' b ∨ HTabF t v b) := by
  have hF := h.F_eq
  subst hF
  have hsF : ¬ Fh s := fun hf => h.soff (.inl hf)
  have hsT : ¬ HTabF t v s := fun hf => h.soff (.inr hf)
  have hslt : s < w.heap.size := cell_lt (a := ⟨s, 2, none⟩) h.ca
  have hs1 : ¬ Fh' s := t1.not hslt hsF
  have hap : ∀ b, Fh' b → ¬ HTabF t v b := fun b hb ht' => t1.not (h.tab.lt ht') (fun hf => h.apart b hf ht') hb
  have hcl : closedIs (sl[k]'n.lt).gen last ≠ 1 := by unfold closedIs; split <;> omega
  have hxH : x ∈ H := (h.inH x).2 ⟨k, n⟩
  have hnm : ∀ {y k' : Nat}, Names (sl.set k { (sl[k]'n.lt) with is := closedIs (sl[k]'n.lt).gen last }) y k' ↔ Names sl y k' ∧ k' ≠ k := names_closed n.lt hcl
  have hyx : ∀ {y k' : Nat}, Names sl y k' → (k' ≠ k ↔ y ≠ x) := fun {y k'} n' => by
    constructor
    · intro h1 e; subst e; exact h1 (h.name_inj n' n)
    · intro h1 e; subst e; exact h1 ((n'.gen n'.lt).trans (n.gen n.lt).symm)
  refine ⟨{ h with
    ca := t2.cell (t1.cell h.ca hsF) hsT
    ch := t2.cell (t1.cell h.ch hsF) hsT
    ct := t2.cell (t1.cell h.ct hsF) hsT
    heap := hh.turn t2 hap (fun hf => ?_) (fun hf => ?_)
    tab := hT
    F_eq := rfl
    apart := hap
    soff := fun hf => hf.elim hs1 hsT
    link := fun y k' n' => ?_
    inH := fun y => ?_
    none' := fun y hy => ?_
    perm := ?_
    nodup := h.nodup.erase x
    pages := Nat.le_trans hf.pages h.pages
    gens := fun z hz => ?_
    ret := fun z hz h2 => ?_ }, t1.left.trans t2.right⟩
  · exact h.haoff hf
  · exact Nat.lt_irrefl _ (h.tboff _ hf)
  · obtain ⟨n1, hne⟩ := hnm.1 n'
    have hy := (hyx n1).1 hne
    obtain ⟨ws', h1, h2⟩ := h.link y k' n1
    refine ⟨ws', (updR_other hy).trans h1, ?_⟩
    rw [List.getElem_set_ne (Ne.symm hne)]
    have hb' : ((sl[k']'n1.lt).addr, bszN (ws'.length + 2)) ∈ blocks L' := by
      rcases List.mem_cons.1 (hf.perm.mem_iff.1 h2.blk) with h3 | h3
      · have := congrArg Prod.fst h3
        simp only at this
        exact absurd (h2.h0.symm.trans (by rw [this]; exact hr.h0)) hy
      · exact h3
    exact h2.same hb' (hf.same _ hb')
  · rw [h.nodup.mem_erase_iff]
    constructor
    · rintro ⟨hy, hm⟩
      obtain ⟨k', n'⟩ := (h.inH y).1 hm
      exact ⟨k', hnm.2 ⟨n', (hyx n').2 hy⟩⟩
    · rintro ⟨k', n'⟩
      obtain ⟨n1, hne⟩ := hnm.1 n'
      exact ⟨(hyx n1).1 hne, (h.inH y).2 ⟨k', n1⟩⟩
  · by_cases hy' : y = x
    · rw [hy', updR_same]
    · refine (updR_other hy').trans (h.none' y (fun hm => hy ?_))
      exact (h.nodup.mem_erase_iff).2 ⟨hy', hm⟩
  · have h1 : ((blocks L).map fun b => mem b.1).Perm (x :: ((blocks L').map fun b => mem' b.1)) := by
      have h2 := hf.perm.map (fun b : Nat × Nat => mem b.1)
      rw [List.map_cons] at h2
      have h3 : ((blocks L').map fun b => mem' b.1) = (blocks L').map fun b => mem b.1 := List.map_congr_left fun b hb => hf.same b hb b.1 (Nat.le_refl _) (by have := block_within_two hh.lay hb; omega)
      rw [h3]
      simp only [hr.h0] at h2
      exact h2
    have h4 := h.perm.trans h1
    have h5 := h4.erase x
    rwa [List.erase_cons_head] at h5
  · rcases List.mem_or_eq_of_mem_set hz with h1 | rfl
    · exact h.gens z h1
    · exact h.gens (sl[k]'n.lt) (List.getElem_mem n.lt)
  · rcases List.mem_or_eq_of_mem_set hz with h1 | rfl
    · exact h.ret z h1 h2
    · simp only at h2
      unfold closedIs at h2
      split at h2
      · assumption
      · cases h2
end
end Go.Proofs.YtjpmlneihbckpaaGreatDoor
/- The walk of store.Make. -/
set_option linter.unusedVariables false
set_option linter.unusedSimpArgs false
namespace Go.Proofs.YtjpmlneihbckpaaGreatDoor
open Go.RowKit Go.Shelf
theorem alloc_any {w : World} {ha a q : Nat} {F : Nat → Prop} {L : HL} {mem : Nat → Nat} (h : HeapIs w ha a F L q mem) (n : Nat) (hn1 : 1 ≤ n) (hn : n ≤ 4000) :
    Calls Tryz.prog 114 #[.pointer (some ⟨ha, 0, none⟩), .int .i64 (n : Nat)] w fun e w' =>
      (∃ addr F' L' mem', e = .returned (.tuple #[.int .i64 (addr : Nat), .int .i64 0]) ∧ HeapIs w' ha a F' L' q mem' ∧ Turn w F w' F' ∧ Got L mem addr n L' mem' ∧ addr < 40000000) ∨
      (e = .returned (.tuple #[.int .i64 0, .int .i64 3]) ∧ Below w.heap.size w w' ∧ q < ((runs L).length + pgsN n) * 64) := by
  by_cases h28 : n ≤ 28
  · refine (alloc_small h n hn1 h28).mono fun e w' hh => ?_
    rw [show pgsN n = 1 from if_pos h28]
    exact hh
  · rw [show pgsN n = (n + 65) / 64 from if_neg h28]
    by_cases hq : ((runs L).length + (n + 65) / 64) * 64 ≤ q
    · exact (alloc_large h n (by omega) hn hq).mono fun e w' ⟨addr, F', L', mem', h1, h2, h3, h4, h5⟩ => .inl ⟨addr, F', L', mem', h1, h2, h3, h4, by omega⟩
    · exact (alloc_large_full h n (by omega) hn (by omega)).mono fun e w' ⟨h1, h2⟩ => .inr ⟨h1, h2, by omega⟩
/-- a post that no panic meets -/
def noPanic (Q : Exit → Act → World → Prop) : Exit → Act → World → Prop
  | .panic _, _, _ => False
  | e, a, w => Q e a w
theorem wp_noPanic {P : Program} {c : Code} {Q : Exit → Act → World → Prop} {a : Act} {w : World} (h : c.wp P (noPanic Q) a w) : c.wp P Q a w :=
  wp_mono h (fun e a w hh => by cases e <;> first | exact hh | exact hh.elim)
/-- what Open answers, and has made -/
def OpenR (w : World) (t : Nat) (v : Value) (most last : Nat) (sl : List Sl) (addr hv er : Nat) (w' : World) : Prop :=
  (er = 0 ∧ ∃ k g v' sl', Opened sl addr k g sl' ∧ hv = handleN g k ∧ HTab w' t v' most last sl' ∧ Turn w (HTabF t v) w' (HTabF t v')) ∨
  (er = 10 ∧ hv = 0 ∧ sl.length = most ∧ (∀ s ∈ sl, s.is ≠ 0) ∧ w = w')
theorem hopen_one {w : World} {t most last : Nat} {v : Value} {sl : List Sl} (hT : HTab w t v most last sl) (addr : Nat) (ha : addr < 1099511627776) :
    Calls Tryz.prog 117 #[.pointer (some ⟨t, 0, none⟩), .int .i64 (addr : Nat)] w fun e w' => ∃ hv er : Nat, e = .returned (.tuple #[.int .u64 (hv : Nat), .int .i64 (er : Nat)]) ∧ OpenR w t v most last sl addr hv er w' := by
  refine (hopen_at hT addr ha).mono ?_
  rintro e w' (⟨k, g, v', sl', h1, rfl, h3, h4⟩ | ⟨h1, h2, rfl, rfl⟩)
  · exact ⟨handleN g k, 0, rfl, .inl ⟨rfl, k, g, v', sl', h1, rfl, h3, h4⟩⟩
  · exact ⟨0, 10, rfl, .inr ⟨rfl, rfl, h1, h2, rfl⟩⟩
theorem openR_cell {w w' : World} {t most last : Nat} {v : Value} {sl : List Sl} {addr hv er : Nat} (h : OpenR w t v most last sl addr hv er w') {b : Nat} {x : Value} (hb : ¬ HTabF t v b) (hc : w.cell? ⟨b, 0, none⟩ = some x) (hf : w.frozen? ⟨b, 0, none⟩ = false) :
    w'.cell? ⟨b, 0, none⟩ = some x ∧ w'.frozen? ⟨b, 0, none⟩ = false := by
  rcases h with ⟨_, k, g, v', sl', _, _, _, ht⟩ | ⟨_, _, _, _, rfl⟩
  · exact ⟨ht.cell hc hb, (World.frozen?_of_block (a := ⟨b, 0, none⟩) (ht.keep b (cell_lt hc) hb)).trans hf⟩
  · exact ⟨hc, hf⟩
/-- the deferred function, where all went well -/
theorem make1_ok (E S A : Addr) (u : FrameMode) (w : World) (hE : w.cell? E = some (.int .i64 0)) :
    CallsD Tryz.prog 115 #[.pointer (some E), .pointer (some S), .pointer (some A)] u w fun e u' w' => u' = u ∧ (e = .returned (.tuple #[]) ∧ w = w') := by
  go_enter_d Tryz.func115, Tryz.ntmps115
  go_wp2
  go_end0
  exact ⟨rfl, rfl⟩
set_option maxRecDepth 100000 in
/-- the deferred function, where it did not: the block is freed -/
theorem make1_err (E S A : Addr) (u : FrameMode) (w : World) (er : Nat) (her : er ≠ 0) (hE : w.cell? E = some (.int .i64 (er : Nat))) {s ha addr : Nat} (hS : w.cell? S = some (.pointer (some ⟨s, 0, none⟩))) (hA : w.cell? A = some (.int .i64 (addr : Nat)))
    (hh : w.cell? ⟨s, 3, none⟩ = some (.pointer (some ⟨ha, 0, none⟩))) {Q : World → Prop} (hF : ∀ X : Bel w, Calls Tryz.prog 116 #[.pointer (some ⟨ha, 0, none⟩), .int .i64 (addr : Nat)] X.W fun e w' => ∃ z, e = .returned z ∧ Q w') :
    CallsD Tryz.prog 115 #[.pointer (some E), .pointer (some S), .pointer (some A)] u w fun e u' w' => u' = u ∧ (e = .returned (.tuple #[]) ∧ Q w') := by
  have d1 : ((er : Int) != 0) = true := by simp; omega
  have x1 := fun X : Bel w => X.cell hS
  have x2 := fun X : Bel w => X.cell hA
  have x3 := fun X : Bel w => X.cell hh
  have hFH := Lib.hid hF
  clear hF
  go_enter_d Tryz.func115, Tryz.ntmps115
  go_wp2_with fail
  refine wp_region_calm_tail 5 (by kernel_rfl) (by kernel_rfl) ?_
  simp only [List.take_succ_cons, List.take_zero, List.drop_succ_cons, List.drop_zero]
  repeat (go_big_quiet_step (fail))
  refine wpQuiet_nil ?_
  rintro _ ⟨X, rfl⟩
  go_wp2_with fail
  refine (hFH.out X).mono ?_
  rintro e w' ⟨z, rfl, hQ⟩
  have hQH := Lib.hid hQ
  clear hQ
  go_wp2
  go_end0
  exact ⟨rfl, hQH.out⟩
theorem Turn.priv {w W W' : World} {A A' G G' : Nat → Prop} (h : Turn w A W A') (g : Turn W G W' G') (hG : ∀ b, G b → w.heap.size ≤ b) : Turn w A W' A' :=
  ⟨g.os.trans h.os, g.tape.trans h.tape, g.output.trans h.output, Nat.le_trans h.size g.size, fun k hk hn => (g.keep k (Nat.lt_of_lt_of_le hk h.size) (fun hf => by have := hG k hf; omega)).trans (h.keep k hk hn), h.grow⟩
/-- what stands between two steps of Make: the heap, the table, the store's cells, the variables of its own -/
structure MK (W : World) (s a ha t : Nat) (v : Value) (most last q : Nat) (Fh : Nat → Prop) (L : HL) (mem : Nat → Nat) (sl : List Sl) (E A : Nat) (er addr : Nat) : Prop where
  ca : W.cell? ⟨s, 2, none⟩ = some (.pointer (some ⟨a, 0, none⟩))
  ch : W.cell? ⟨s, 3, none⟩ = some (.pointer (some ⟨ha, 0, none⟩))
  ct : W.cell? ⟨s, 4, none⟩ = some (.pointer (some ⟨t, 0, none⟩))
  heap : HeapIs W ha a Fh L q mem
  tab : HTab W t v most last sl
  cS : ∃ S, E = S + 1 ∧ W.cell? ⟨S, 0, none⟩ = some (.pointer (some ⟨s, 0, none⟩))
  cE : W.cell? ⟨E, 0, none⟩ = some (.int .i64 (er : Nat))
  fE : W.frozen? ⟨E, 0, none⟩ = false
  cA : W.cell? ⟨A, 0, none⟩ = some (.int .i64 (addr : Nat))
  nE : ¬ Fh E ∧ ¬ HTabF t v E ∧ E ≠ s ∧ E ≠ ha ∧ E ≠ A ∧ 1 < E
  nA : ¬ Fh A ∧ ¬ HTabF t v A
  nS : ¬ Fh (E - 1) ∧ ¬ HTabF t v (E - 1)
  ns : ¬ Fh s ∧ ¬ HTabF t v s
  ap : ∀ b, Fh b → ¬ HTabF t v b
  hh : ¬ HTabF t v ha
  tb : ∀ b, HTabF t v b → 1 < b
section
variable {W W' : World} {s a ha t : Nat} {v v' : Value} {most last q : Nat} {Fh Fh' : Nat → Prop} {L L' : HL} {mem mem' : Nat → Nat} {sl sl' : List Sl} {E A er addr : Nat}
theorem MK.below (h : MK W s a ha t v most last q Fh L mem sl E A er addr) (hb : Below W.heap.size W W') : MK W' s a ha t v most last q Fh L mem sl E A er addr :=
  { h with
    ca := (hb.cell (p := ⟨s, 2, none⟩) (cell_lt h.ca)).trans h.ca
    ch := (hb.cell (p := ⟨s, 3, none⟩) (cell_lt h.ch)).trans h.ch
    ct := (hb.cell (p := ⟨s, 4, none⟩) (cell_lt h.ct)).trans h.ct
    heap := h.heap.below hb
    tab := h.tab.below hb
    cS := by obtain ⟨S, h1, h2⟩ := h.cS; exact ⟨S, h1, (hb.cell (p := ⟨S, 0, none⟩) (cell_lt h2)).trans h2⟩
    cE := (hb.cell (p := ⟨E, 0, none⟩) (cell_lt h.cE)).trans h.cE
    fE := (hb.frozen (p := ⟨E, 0, none⟩) (cell_lt h.cE)).trans h.fE
    cA := (hb.cell (p := ⟨A, 0, none⟩) (cell_lt h.cA)).trans h.cA }
theorem MK.setE (h : MK W s a ha t v most last q Fh L mem sl E A er addr) (er' : Nat) : MK (W.setCell ⟨E, 0, none⟩ (.int .i64 (er' : Nat))) s a ha t v most last q Fh L mem sl E A er' addr := by
  have ht : Turn W (fun b => b = E) (W.setCell ⟨E, 0, none⟩ (.int .i64 (er' : Nat))) (fun b => b = E) := turn_setCell _ _ rfl
  obtain ⟨n1, n2, n3, n4, n5, n6⟩ := h.nE
  exact { h with
    ca := ht.cell h.ca (fun e => n3 e.symm)
    ch := ht.cell h.ch (fun e => n3 e.symm)
    ct := ht.cell h.ct (fun e => n3 e.symm)
    heap := h.heap.turn ht (fun b hb e => n1 (e ▸ hb)) (fun e => n4 e.symm) (fun e => by omega)
    tab := h.tab.turn ht (fun b hb e => n2 (e ▸ hb))
    cS := by obtain ⟨S, h1, h2⟩ := h.cS; exact ⟨S, h1, ht.cell h2 (fun e => by simp only at e; omega)⟩
    cE := World.cell?_setCell_same' _ _ _ (by rw [h.cE]; rfl)
    fE := by simpa using h.fE
    cA := ht.cell h.cA (fun e => n5 e.symm) }
/-- a step of the heap -/
theorem MK.heapStep (h : MK W s a ha t v most last q Fh L mem sl E A er addr) (hh : HeapIs W' ha a Fh' L' q mem') (ht : Turn W Fh W' Fh') : MK W' s a ha t v most last q Fh' L' mem' sl E A er addr := by
  have hEl := cell_lt h.cE
  have hAl := cell_lt h.cA
  have hsl := cell_lt h.ca
  obtain ⟨S, e, hS⟩ := h.cS
  have hSl := cell_lt hS
  have hSn : ¬ Fh S := by have := h.nS.1; rwa [e, Nat.add_sub_cancel] at this
  exact { h with
    ca := ht.cell h.ca h.ns.1
    ch := ht.cell h.ch h.ns.1
    ct := ht.cell h.ct h.ns.1
    heap := hh
    tab := h.tab.turn ht (fun b hb hf => h.ap b hf hb)
    cS := ⟨S, e, ht.cell hS hSn⟩
    cE := ht.cell h.cE h.nE.1
    fE := (World.frozen?_of_block (a := ⟨E, 0, none⟩) (ht.keep E hEl h.nE.1)).trans h.fE
    cA := ht.cell h.cA h.nA.1
    nE := ⟨ht.not hEl h.nE.1, h.nE.2⟩
    nA := ⟨ht.not hAl h.nA.1, h.nA.2⟩
    nS := ⟨by rw [e, Nat.add_sub_cancel]; exact ht.not hSl hSn, h.nS.2⟩
    ns := ⟨ht.not hsl h.ns.1, h.ns.2⟩
    ap := fun b hb htb => ht.not (h.tab.lt htb) (fun hf => h.ap b hf htb) hb }
/-- a step of the table -/
theorem MK.tabStep (h : MK W s a ha t v most last q Fh L mem sl E A er addr) (hT : HTab W' t v' most last sl') (ht : Turn W (HTabF t v) W' (HTabF t v')) : MK W' s a ha t v' most last q Fh L mem sl' E A er addr := by
  have hEl := cell_lt h.cE
  have hAl := cell_lt h.cA
  have hsl := cell_lt h.ca
  obtain ⟨S, e, hS⟩ := h.cS
  have hSl := cell_lt hS
  have hSn : ¬ HTabF t v S := by have := h.nS.2; rwa [e, Nat.add_sub_cancel] at this
  have hoff := h.heap.off
  have htl : 1 < W.heap.size := Nat.lt_trans (hoff.2.2.2 a hoff.2.2.1) (h.heap.lt hoff.2.2.1)
  have hap' : ∀ b, Fh b → ¬ HTabF t v' b := fun b hb => ht.not (h.heap.lt hb) (h.ap b hb)
  exact { h with
    ca := ht.cell h.ca h.ns.2
    ch := ht.cell h.ch h.ns.2
    ct := ht.cell h.ct h.ns.2
    heap := h.heap.turn ht h.ap h.hh (fun hf => Nat.lt_irrefl _ (h.tb _ hf))
    tab := hT
    cS := ⟨S, e, ht.cell hS hSn⟩
    cE := ht.cell h.cE h.nE.2.1
    fE := (World.frozen?_of_block (a := ⟨E, 0, none⟩) (ht.keep E hEl h.nE.2.1)).trans h.fE
    cA := ht.cell h.cA h.nA.2
    nE := ⟨h.nE.1, ht.not hEl h.nE.2.1, h.nE.2.2⟩
    nA := ⟨h.nA.1, ht.not hAl h.nA.2⟩
    nS := ⟨h.nS.1, by rw [e, Nat.add_sub_cancel]; exact ht.not hSl hSn⟩
    ns := ⟨h.ns.1, ht.not hsl h.ns.2⟩
    ap := hap'
    hh := ht.not hoff.2.1 h.hh
    tb := fun b hb => (ht.grow b hb).elim (fun h1 => h.tb b h1) (fun h1 => by omega) }
end
section
variable {w w' : World} {s : Nat} {F : Nat → Prop} {R : Nat → Option (List Nat)} {H : List Nat} {P q most last G : Nat}
theorem nodup_sub_len {α : Type} [DecidableEq α] : ∀ (l H : List α), l.Nodup → (∀ x ∈ l, x ∈ H) → l.length ≤ H.length
  | [], H, _, _ => Nat.zero_le _
  | x :: t, H, hn, hs => by
    have hx := hs x List.mem_cons_self
    rw [List.nodup_cons] at hn
    have h1 := nodup_sub_len t (H.erase x) hn.2 (fun y hy => (List.mem_erase_of_ne (fun (e : y = x) => hn.1 (e ▸ hy))).2 (hs y (List.mem_cons_of_mem _ hy)))
    rw [List.length_erase_of_mem hx] at h1
    have := List.length_pos_of_mem hx
    simp only [List.length_cons]
    omega
theorem StIn.full_cause {a ha t : Nat} {v : Value} {L : HL} {mem : Nat → Nat} {sl : List Sl} {Fh : Nat → Prop} (h : StIn w s F R H P q most last G a ha t v L mem sl Fh) (hf : sl.length = most) (hz : ∀ x ∈ sl, x.is ≠ 0) : most ≤ H.length ∨ last ≤ G := by
  by_cases h2 : ∃ x ∈ sl, x.is = 2
  · obtain ⟨x, hx, h3⟩ := h2
    right
    rw [← h.ret x hx h3]
    exact h.gens x hx
  · left
    have h1 : ∀ k (hk : k < sl.length), Names sl (handleN sl[k].gen k) k := fun k hk => by
      refine ⟨hk, fun _ => ?_, fun _ => rfl⟩
      have a1 := (h.tab.ok _ (List.getElem_mem hk)).is
      have a2 := hz _ (List.getElem_mem hk)
      have a3 : sl[k].is ≠ 2 := fun e => h2 ⟨_, List.getElem_mem hk, e⟩
      omega
    have h4 := nodup_sub_len ((List.range sl.length).map fun k => handleN ((sl[k]?).getD ⟨0, 0, 0⟩).gen k) H ?_ ?_
    · rw [List.length_map, List.length_range] at h4; omega
    · refine List.pairwise_map.2 (List.Pairwise.imp_of_mem (R := fun a b => a < b) (fun {a b} ha hb hab => ?_) List.pairwise_lt_range)
      intro e
      have := handleN_inj (h.k_lt (by simpa using ha)) (h.k_lt (by simpa using hb)) e
      omega
    · intro y hy
      obtain ⟨k, hk, rfl⟩ := List.mem_map.1 hy
      have hk' : k < sl.length := by simpa using hk
      rw [List.getElem?_eq_getElem hk']
      exact (h.inH _).2 ⟨k, h1 k hk'⟩
/-- what Make has made -/
def MadeR (w : World) (s : Nat) (F : Nat → Prop) (R : Nat → Option (List Nat)) (H : List Nat) (P q most last G n : Nat) (e : Ending) (w' : World) : Prop :=
  (∃ x F', R x = none ∧ x ≠ 0 ∧ x < 18446744073709551616 ∧ e = .returned (.tuple #[.int .u64 (x : Nat), .int .i64 0]) ∧ StoreIs w' s F' (updR R x (some (List.replicate n 0))) (x :: H) (P + pgsN (n + 2)) q most last (G + 1) ∧ Turn w F w' F') ∨
  (∃ er F', e = .returned (.tuple #[.int .u64 0, .int .i64 (er : Nat)]) ∧ ((er = 3 ∧ q < (P + pgsN (n + 2)) * 64) ∨ (er = 10 ∧ (most ≤ H.length ∨ last ≤ G))) ∧ StoreIs w' s F' R H (P + pgsN (n + 2)) q most last G ∧ Turn w F w' F')
set_option maxHeartbeats 2000000 in
set_option maxRecDepth 100000 in
theorem smake_at (h : StoreIs w s F R H P q most last G) (n : Nat) (hn : n ≤ 3998) :
    Calls Tryz.prog 88 #[.pointer (some ⟨s, 0, none⟩), .int .i64 (n : Nat)] w (MadeR w s F R H P q most last G n) := by
  obtain ⟨a, ha, t, v, L, mem, sl, Fh, h⟩ := h
  have hmf : ∀ (fn : Fn) (first cap : Array Value) (w : World), (Instr.makeFunc fn first cap).run Tryz.prog w = .ok (.func fn first cap) w := fun _ _ _ _ => rfl
  have hH := Lib.hid h
  have hslt : s < w.heap.size := cell_lt (a := ⟨s, 2, none⟩) h.ca
  have d1 : decide ((n : Int) < 0) = false := by simp
  have d2 : decide ((3998 : Int) < (n : Int)) = false := by simp; omega
  clear h
  go_enter_defers Tryz.func88, Tryz.ntmps88
  go_wp2_with fail
  have hb0 : Below w.heap.size w ((w.alloc (Obj.cells #[Value.pointer (some { block := s, off := 0 })] 25)).alloc (Obj.cells #[Value.int IntKind.i64 0] 26)) := ((Below.refl _ w).alloc (Nat.le_refl _) _).alloc (by simp) _
  have hc0 : ((w.alloc (Obj.cells #[Value.pointer (some { block := s, off := 0 })] 25)).alloc (Obj.cells #[Value.int IntKind.i64 0] 26)).cell? ⟨w.heap.size, 0, none⟩ = some (.pointer (some ⟨s, 0, none⟩)) := by go_simp
  have hc1 : ((w.alloc (Obj.cells #[Value.pointer (some { block := s, off := 0 })] 25)).alloc (Obj.cells #[Value.int IntKind.i64 0] 26)).cell? ⟨w.heap.size + 1, 0, none⟩ = some (.int .i64 0) := by go_simp
  have hf1 : ((w.alloc (Obj.cells #[Value.pointer (some { block := s, off := 0 })] 25)).alloc (Obj.cells #[Value.int IntKind.i64 0] 26)).frozen? ⟨w.heap.size + 1, 0, none⟩ = false := by go_simp
  have hz0 : ((w.alloc (Obj.cells #[Value.pointer (some { block := s, off := 0 })] 25)).alloc (Obj.cells #[Value.int IntKind.i64 0] 26)).heap.size ≥ w.heap.size + 2 := by simp
  generalize ((w.alloc (Obj.cells #[Value.pointer (some { block := s, off := 0 })] 25)).alloc (Obj.cells #[Value.int IntKind.i64 0] 26)) = W0 at *
  have hH0 := Lib.hid (hH.out.below hb0)
  have T0 := Lib.hid (Turn.below (F := F) hb0)
  have hbH := Lib.hid hb0
  clear hb0
  refine (snone_at hH0.out).mono ?_
  rintro e w' ⟨rfl, rfl⟩
  have hch := hH0.out.ch
  have hct := hH0.out.ct
  have hca := hH0.out.ca
  go_wp2_with fail
  rw [show ((n : Int) + 2) = ((n + 2 : Nat) : Int) by push_cast; rfl]
  refine (alloc_any hH0.out.heap (n + 2) (by omega) (by omega)).mono ?_
  rintro e w1 (⟨addr, F1, L1, mem1, rfl, hh1, t1, hgot, had⟩ | ⟨rfl, hb1, hq⟩)
  · have hnF : ∀ b, w.heap.size ≤ b → ¬ F b := fun b hb hf => by have := hH.out.lt hf; omega
    have hFe := hH.out.F_eq
    subst hFe
    have hnh : ∀ b, w.heap.size ≤ b → ¬ Fh b := fun b hb hf => hnF b hb (.inl hf)
    have hnt : ∀ b, w.heap.size ≤ b → ¬ HTabF t v b := fun b hb hf => hnF b hb (.inr hf)
    have hsz1 := t1.size
    have hoff := hH.out.heap.off
    have htl : 1 < w.heap.size := Nat.lt_trans (hoff.2.2.2 a hoff.2.2.1) (hH.out.heap.lt hoff.2.2.1)
    have hz1 : w.heap.size + 1 < w1.heap.size := by omega
    have hz1' : w.heap.size < w1.heap.size := by omega
    have hsF : ¬ Fh s := fun hf => hH.out.soff (.inl hf)
    have hsT : ¬ HTabF t v s := fun hf => hH.out.soff (.inr hf)
    have m0 : ∀ W, Below w1.heap.size w1 W → W.cell? ⟨w1.heap.size, 0, none⟩ = some (.int .i64 (addr : Nat)) → MK W s a ha t v most last q F1 L1 mem1 sl (w.heap.size + 1) w1.heap.size 0 addr := fun W hb hA => {
      ca := (hb.cell (p := ⟨s, 2, none⟩) (cell_lt (t1.cell hca hsF))).trans (t1.cell hca hsF)
      ch := (hb.cell (p := ⟨s, 3, none⟩) (cell_lt (t1.cell hch hsF))).trans (t1.cell hch hsF)
      ct := (hb.cell (p := ⟨s, 4, none⟩) (cell_lt (t1.cell hct hsF))).trans (t1.cell hct hsF)
      heap := hh1.below hb
      tab := (hH0.out.tab.turn t1 (fun b hb hf => hH.out.apart b hf hb)).below hb
      cS := ⟨w.heap.size, rfl, (hb.cell (p := ⟨w.heap.size, 0, none⟩) hz1').trans (t1.cell hc0 (hnh _ (Nat.le_refl _)))⟩
      cE := (hb.cell (p := ⟨w.heap.size + 1, 0, none⟩) hz1).trans (t1.cell hc1 (hnh _ (by simp)))
      fE := (hb.frozen (p := ⟨w.heap.size + 1, 0, none⟩) hz1).trans ((World.frozen?_of_block (a := ⟨w.heap.size + 1, 0, none⟩) (t1.keep (w.heap.size + 1) (by omega) (hnh (w.heap.size + 1) (by omega)))).trans hf1)
      cA := hA
      nE := ⟨t1.not (by omega) (hnh _ (by omega)), hnt _ (by omega), by omega, by omega, by omega, by omega⟩
      nA := ⟨fun hf => Nat.lt_irrefl _ (hh1.lt hf), hnt _ (by omega)⟩
      nS := by rw [Nat.add_sub_cancel]; exact ⟨t1.not (by omega) (hnh _ (Nat.le_refl _)), hnt _ (Nat.le_refl _)⟩
      ns := ⟨t1.not (Nat.lt_of_lt_of_le hslt hbH.out.size) hsF, hsT⟩
      ap := fun b hb htb => t1.not (hH0.out.tab.lt htb) (fun hf => hH.out.apart b hf htb) hb
      hh := hH.out.haoff
      tb := hH.out.tboff }
    have hc1' := t1.cell hc1 (hnh _ (by simp))
    have hf1' := (World.frozen?_of_block (a := ⟨w.heap.size + 1, 0, none⟩) (t1.keep (w.heap.size + 1) (by omega) (hnh _ (by omega)))).trans hf1
    have t01 := Lib.hid (Turn.trans (Turn.below (F := Fh) hbH.out) t1)
    have m0H := Lib.hid m0
    have hgotH := Lib.hid hgot
    have hh1H := Lib.hid hh1
    clear m0 hh1 t1 hgot hca hch hct hc0 hc1 hf1
    go_wp2_with fail
    obtain ⟨W1, hW1⟩ : ∃ W1, W1 = (w1.setCell { block := w.heap.size + 1, off := 0 } (Value.int IntKind.i64 0)).alloc (Obj.cells #[Value.int IntKind.i64 (addr : Nat)] 3) := ⟨_, rfl⟩
    have M1 : MK W1 s a ha t v most last q F1 L1 mem1 sl (w.heap.size + 1) w1.heap.size 0 addr := by
      have h8 := (m0H.out (w1.alloc (Obj.cells #[Value.int IntKind.i64 (addr : Nat)] 3)) ((Below.refl _ _).alloc (Nat.le_refl _) _) (by go_simp)).setE 0
      have h9 : ((w1.alloc (Obj.cells #[Value.int IntKind.i64 (addr : Nat)] 3)).setCell ⟨w.heap.size + 1, 0, none⟩ (.int .i64 ((0 : Nat) : Int))) = W1 := by
        rw [hW1]
        exact World.setCell_alloc_past _ _ _ _ (by omega)
      rwa [h9] at h8
    have T1 : Turn w Fh W1 F1 := by
      rw [hW1]
      exact (t01.out.priv (turn_setCell (F := fun b => b = w.heap.size + 1) ⟨w.heap.size + 1, 0, none⟩ (.int .i64 0) rfl) (fun b hb => by omega)).priv (Turn.below (F := fun _ => False) ((Below.refl _ _).alloc (Nat.le_refl _) _)) (fun _ h => h.elim)
    rw [← hW1]
    have hW1H := Lib.hid hW1
    have M1H := Lib.hid M1
    have T1H := Lib.hid T1
    have y1 := M1.ct
    have y2 := M1.cA
    have y3 := M1.cE
    have y4 := M1.fE
    obtain ⟨S, hS1, y5⟩ := M1.cS
    have hS2 : S = w.heap.size := by omega
    subst hS2
    clear hc1' hf1' hW1 M1 T1 hS1
    refine wp_noPanic ?_
    go_region_with (go_at_call 117; refine (hopen_one (M1H.out.below (drewN_below W1 1)).tab addr (by omega)).mono ?_; rintro e w3 ⟨hv, er, rfl, hO⟩; obtain ⟨z1, z2⟩ := openR_cell hO M1H.out.nE.2.1 y3 y4; have hOH := Lib.hid hO; clear hO)
    all_goals
      dsimp only [noPanic]
      rcases hOH.out with ⟨rfl, k, g, v', sl', ho, rfl, hT3, t3⟩ | ⟨rfl, rfl, hfull, hnz, rfl⟩
      · have M3 := (((M1H.out.below (drewN_below W1 1)).tabStep hT3 t3).setE 0)
        have hTH := Lib.hid hT3
        have t3H := Lib.hid t3
        have hoH := Lib.hid ho
        have hkx : handleN g k < 18446744073709551616 ∧ handleN g k ≠ 0 := by
          obtain ⟨hk, he⟩ := opened_addr ho
          have h1 := (hT3.ok _ (List.getElem_mem hk)).hi
          rw [he] at h1
          have h2 := hT3.l2
          have h3 := hT3.len
          have h4 := hT3.m2
          unfold handleN
          simp only at h1
          omega
        obtain ⟨hkx1, hkx2⟩ := hkx
        generalize hx : handleN g k = x at *
        have hxH := Lib.hid hx
        have T3a : Turn w3 (fun b => F1 b ∨ b = w.heap.size + 1) (w3.setCell ⟨w.heap.size + 1, 0, none⟩ (.int .i64 ((0 : Nat) : Int))) (fun b => F1 b ∨ b = w.heap.size + 1) := turn_setCell _ _ (.inr rfl)
        have T3H := Lib.hid T3a
        have hEH := Lib.hid M3.nE.2.1
        clear hOH y1 y2 y3 y4 y5 z1 z2 ho hT3 t3 hx T3a
        obtain ⟨W4, hW4⟩ : ∃ W4, W4 = w3.setCell ⟨w.heap.size + 1, 0, none⟩ (.int .i64 ((0 : Nat) : Int)) := ⟨_, rfl⟩
        have M4H : Hid (MK W4 s a ha t v' most last q F1 L1 mem1 sl' (w.heap.size + 1) w1.heap.size 0 addr) := Lib.hid (hW4 ▸ M3)
        rw [← hW4] at T3H ⊢
        clear hW4 M3
        have y3 := M4H.out.cE
        go_wp2_with fail
        have x1 := fun X : Bel W4 => X.cell M4H.out.ca
        have x2 := fun X : Bel W4 => X.cell M4H.out.cA
        obtain ⟨S, hS1, y5⟩ := M4H.out.cS
        have hS2 : S = w.heap.size := by omega
        subst hS2
        have x3 := fun X : Bel W4 => X.cell y5
        clear y3 y5 hS1
        refine wp_region_calm_tail 6 (by kernel_rfl) (by kernel_rfl) ?_
        simp only [List.take_succ_cons, List.take_zero, List.drop_succ_cons, List.drop_zero]
        repeat (go_big_quiet_step (fail))
        refine wpQuiet_nil ?_
        rintro _ ⟨X, rfl⟩
        have M5 := Lib.hid (M4H.out.below X.h)
        have T5 := Lib.hid (Turn.trans T3H.out (.below X.h))
        clear x1 x2 x3
        generalize X.W = W5 at *
        go_wp2_with fail
        have hblk : (addr, bszN (n + 2)) ∈ blocks L1 := hgotH.out.perm.mem_iff.2 List.mem_cons_self
        have hbn := bszN_ge (n + 2)
        refine (write_is M5.out.heap hblk addr x (Nat.le_refl _) (by simp only; omega) hkx1).mono ?_
        rintro e W6 ⟨rfl, h6, t6⟩
        have M6 := Lib.hid (M5.out.heapStep h6 t6)
        have T6 := Lib.hid (T5.out.trans t6.left)
        clear h6 t6
        have x1 := fun X : Bel W6 => X.cell M6.out.ca
        have x2 := fun X : Bel W6 => X.cell M6.out.cA
        obtain ⟨S, hS1, y5⟩ := M6.out.cS
        have hS2 : S = w.heap.size := by omega
        subst hS2
        have x3 := fun X : Bel W6 => X.cell y5
        clear y5 hS1
        go_wp2_with fail
        refine wp_region_calm_tail 8 (by kernel_rfl) (by kernel_rfl) ?_
        simp only [List.take_succ_cons, List.take_zero, List.drop_succ_cons, List.drop_zero]
        repeat (go_big_quiet_step (fail))
        refine wpQuiet_nil ?_
        rintro _ ⟨X, rfl⟩
        have M7 := Lib.hid (M6.out.below X.h)
        have T7 := Lib.hid (T6.out.trans (.below X.h))
        clear x1 x2 x3
        generalize X.W = W7 at *
        go_wp2_with fail
        rw [show ((addr : Int) + 1) = ((addr + 1 : Nat) : Int) by push_cast; rfl]
        refine (write_is M7.out.heap hblk (addr + 1) n (by simp) (by simp only; omega) (by omega)).mono ?_
        rintro e W8 ⟨rfl, h8, t8⟩
        have M8 := Lib.hid ((M7.out.heapStep h8 t8).setE 0)
        have y3 := (M7.out.heapStep h8 t8).cE
        have y4 := (M7.out.heapStep h8 t8).fE
        have T8 := Lib.hid ((T7.out.trans t8.left).trans (turn_setCell (F := fun b => F1 b ∨ b = w.heap.size + 1) ⟨w.heap.size + 1, 0, none⟩ (.int .i64 ((0 : Nat) : Int)) (.inr rfl)))
        clear h8 t8
        go_wp2_with fail
        have hfin := hH.out.make (X := fun b => b = w.heap.size + 1) hn (T1H.out.priv (Turn.below (F := fun _ => False) (drewN_below W1 1)) (fun _ h => h.elim)) hgotH.out hoH.out hTH.out t3H.out T8.out (fun b hb => by subst hb; exact ⟨by omega, hEH.out⟩) (by rw [hxH.out]; exact M8.out.heap) (fun b hb => M1H.out.heap.lt hb)
        have hfinH := Lib.hid hfin
        refine leaves_cons (f := 115) (args := #[.pointer (some ⟨w.heap.size + 1, 0, none⟩), .pointer (some ⟨w.heap.size, 0, none⟩), .pointer (some ⟨w1.heap.size, 0, none⟩)]) (by simp) (by simp [go_sem]) ?_
        refine (make1_ok ⟨w.heap.size + 1, 0, none⟩ _ _ .returning _ M8.out.cE).mono ?_
        rintro e u' w'' ⟨rfl, rfl, rfl⟩
        refine ⟨.tuple #[.int .u64 (x : Nat), .int .i64 0], ?_, ?_⟩
        · have z8 : (W8.setCell ⟨w.heap.size + 1, 0, none⟩ (.int .i64 0)).cell? ⟨w.heap.size + 1, 0, none⟩ = some (.int .i64 0) := M8.out.cE
          simp [results, Tryz.f88, go_sem, z8]
        · obtain ⟨u1, u2, u3⟩ := hfinH.out
          rw [hxH.out] at u1 u3
          exact .inl ⟨x, _, u3, hkx2, hkx1, rfl, ⟨_, _, _, _, _, _, _, _, u1⟩, u2⟩
      · have M3 := ((M1H.out.below (drewN_below W1 1)).setE 10)
        have y6 := M3.cE
        have y7 := M3.fE
        have T3 := Lib.hid ((T1H.out.priv (Turn.below (F := fun _ => False) (drewN_below W1 1)) (fun _ h => h.elim)).priv (turn_setCell (F := fun b => b = w.heap.size + 1) ⟨w.heap.size + 1, 0, none⟩ (.int .i64 ((10 : Nat) : Int)) rfl) (fun b hb => by omega))
        have M3H := Lib.hid M3
        clear hOH y1 y2 y3 y4 y5 z1 z2 M3
        obtain ⟨W4, hW4⟩ : ∃ W4, W4 = (W1.drewN 1).setCell ⟨w.heap.size + 1, 0, none⟩ (.int .i64 ((10 : Nat) : Int)) := ⟨_, rfl⟩
        rw [← hW4] at y6 y7 T3 M3H ⊢
        clear hW4
        go_wp2_with fail
        refine wp_noPanic ?_
        go_region
        all_goals
          dsimp only [noPanic]
          have M5 := ((M3H.out.setE 10).below (W' := (W4.setCell ⟨w.heap.size + 1, 0, none⟩ (.int .i64 ((10 : Nat) : Int))).drew) (drewN_below _ 1))
          have T5 := Lib.hid ((T3.out.priv (turn_setCell (F := fun b => b = w.heap.size + 1) ⟨w.heap.size + 1, 0, none⟩ (.int .i64 ((10 : Nat) : Int)) rfl) (fun b hb => by omega)).priv (Turn.below (F := fun _ => False) (drewN_below _ 1)) (fun _ h => h.elim))
          have M5H := Lib.hid M5
          clear M5 y6 y7
          go_wp2_with fail
          obtain ⟨S, hS1, y5⟩ := M5H.out.cS
          have hS2 : S = w.heap.size := by omega
          subst hS2
          have hblk : (addr, bszN (n + 2)) ∈ blocks L1 := hgotH.out.perm.mem_iff.2 List.mem_cons_self
          refine leaves_cons (f := 115) (args := #[.pointer (some ⟨w.heap.size + 1, 0, none⟩), .pointer (some ⟨w.heap.size, 0, none⟩), .pointer (some ⟨w1.heap.size, 0, none⟩)]) (by simp) (by simp [go_sem]) ?_
          refine (make1_err ⟨w.heap.size + 1, 0, none⟩ ⟨w.heap.size, 0, none⟩ ⟨w1.heap.size, 0, none⟩ .returning _ 10 (by omega) M5H.out.cE y5 M5H.out.cA M5H.out.ch (Q := fun w' => ∃ F' L' mem', HeapIs w' ha a F' L' q mem' ∧ Turn (W4.setCell ⟨w.heap.size + 1, 0, none⟩ (.int .i64 ((10 : Nat) : Int))).drew F1 w' F' ∧ Freed L1 mem1 (addr, bszN (n + 2)) L' mem') (fun X => ?_)).mono ?_
          · refine (free_is (M5H.out.heap.below X.h) (addr, bszN (n + 2)) hblk).mono ?_
            rintro e w' ⟨F', L', mem', rfl, g1, g2, g3⟩
            exact ⟨_, rfl, F', L', mem', g1, (Turn.below X.h).trans g2, g3⟩
          · rintro e u' w'' ⟨rfl, rfl, F', L', mem', g1, g2, g3⟩
            have hcE := g2.cell M5H.out.cE M5H.out.nE.1
            refine ⟨.tuple #[.int .u64 0, .int .i64 10], ?_, ?_⟩
            · have z8 : w''.cell? ⟨w.heap.size + 1, 0, none⟩ = some (.int .i64 10) := hcE
              simp [results, Tryz.f88, go_sem, z8]
            · have hpp : (blocks L').Perm (blocks L) := (g3.perm.symm.trans hgotH.out.perm).cons_inv
              have hpg := hH.out.pages
              have hpg2 := hgotH.out.pages
              have hpg3 := g3.pages
              obtain ⟨u1, u2⟩ := hH.out.reheap (P' := P + pgsN (n + 2)) g1 (T5.out.trans g2) hpp (fun c hc i hi1 hi2 => (g3.same c (hpp.mem_iff.2 hc) i hi1 hi2).trans (hgotH.out.same c hc i hi1 hi2)) (by omega)
              exact .inr ⟨10, _, rfl, .inr ⟨rfl, hH.out.full_cause hfull hnz⟩, ⟨_, _, _, _, _, _, _, _, u1⟩, u2⟩
  · have hbW1 := Lib.hid (hbH.out.trans (hb1.mono hbH.out.size))
    have hc1' := (hb1.cell (p := ⟨w.heap.size + 1, 0, none⟩) (cell_lt hc1)).trans hc1
    have hf1' := (hb1.frozen (p := ⟨w.heap.size + 1, 0, none⟩) (cell_lt hc1)).trans hf1
    have hqH := Lib.hid hq
    have hz1 : w.heap.size + 1 < w1.heap.size := by have := hb1.size; omega
    have hz1' : w.heap.size < w1.heap.size := by omega
    clear hb1 hq
    go_wp2_with fail
    have hE3 : ((w1.setCell { block := w.heap.size + 1, off := 0 } (Value.int IntKind.i64 3)).alloc (Obj.cells #[Value.int IntKind.i64 0] 3)).cell? ⟨w.heap.size + 1, 0, none⟩ = some (.int .i64 3) := by go_simp
    have hF3 : ((w1.setCell { block := w.heap.size + 1, off := 0 } (Value.int IntKind.i64 3)).alloc (Obj.cells #[Value.int IntKind.i64 0] 3)).frozen? ⟨w.heap.size + 1, 0, none⟩ = false := by go_simp
    have hb3 := Lib.hid ((hbW1.out.setCell (p := ⟨w.heap.size + 1, 0, none⟩) (by simp) (.int .i64 3)).alloc (by simp; omega) (Obj.cells #[Value.int IntKind.i64 0] 3))
    clear hc1' hf1'
    generalize ((w1.setCell { block := w.heap.size + 1, off := 0 } (Value.int IntKind.i64 3)).alloc (Obj.cells #[Value.int IntKind.i64 0] 3)) = W3 at *
    go_region
    all_goals
      go_wp2
      refine ⟨.tuple #[.int .u64 0, .int .i64 3], ?_, ?_⟩
      · simp [results, Tryz.f88, go_sem, hE3]
      · have hbF := (hb3.out.setCell (p := ⟨w.heap.size + 1, 0, none⟩) (by simp) (.int .i64 3)).drew
        have hPg := hH.out.pages
        exact .inr ⟨3, F, rfl, .inl ⟨rfl, by have := hqH.out; have := Nat.mul_le_mul_right 64 (Nat.add_le_add_right hPg (pgsN (n + 2))); omega⟩, ⟨_, _, _, _, _, _, _, _, { hH.out.below hbF with pages := by omega }⟩, .below hbF⟩
end
end Go.Proofs.YtjpmlneihbckpaaGreatDoor
/- The walks of store.Drop, Words, New. -/
set_option linter.unusedVariables false
set_option linter.unusedSimpArgs false
namespace Go.Proofs.YtjpmlneihbckpaaGreatDoor
open Go.RowKit Go.Shelf
section
variable {w w' : World} {s : Nat} {F : Nat → Prop} {R : Nat → Option (List Nat)} {H : List Nat} {P q most last G : Nat}
set_option maxHeartbeats 1000000 in
set_option maxRecDepth 100000 in
theorem sdrop_at (h : StoreIs w s F R H P q most last G) {x : Nat} {ws : List Nat} (hR : R x = some ws) :
    Calls Tryz.prog 105 #[.pointer (some ⟨s, 0, none⟩), .int .u64 (x : Nat)] w fun e w' => ∃ F', e = .returned (.int .i64 0) ∧ StoreIs w' s F' (updR R x none) (H.erase x) P q most last G ∧ Turn w F w' F' := by
  obtain ⟨a, ha, t, v, L, mem, sl, Fh, h⟩ := h
  obtain ⟨k, n, hr⟩ := h.record hR
  have hA := Lib.hid (sat_hit h n hr)
  have hH := Lib.hid h
  have hrH := Lib.hid hr
  have hRH := Lib.hid hR
  have hch := h.ch
  have hF := h.F_eq
  subst hF
  have hF1 := Lib.hid (fun w' (hb : Below w.heap.size w w') => free_is (h.heap.below hb) _ hr.blk)
  have hsF : ¬ Fh s := fun hf => h.soff (.inl hf)
  clear h hr hR
  obtain ⟨addr, haddr⟩ : ∃ addr, (sl[k]'n.lt).addr = addr := ⟨_, rfl⟩
  rw [haddr] at hA hrH hF1
  have haH := Lib.hid haddr
  have nH := Lib.hid n
  clear haddr
  go_enter Tryz.func105, Tryz.ntmps105
  go_wp2_with fail
  refine hA.out.mono ?_
  rintro e w' ⟨rfl, rfl⟩
  go_wp2_with fail
  refine (hF1.out _ (Below.refl _ _)).mono ?_
  rintro e w1 ⟨F', L', mem', rfl, g1, g2, g3⟩
  have hct1 := g2.cell hH.out.ct hsF
  have hT1 := hH.out.tab.turn g2 (fun b hb hf => hH.out.apart b hf hb)
  have hC := Lib.hid (fun X : Bel w1 => hclose_hit (hT1.below X.h) nH.out nH.out.lt)
  have g1H := Lib.hid g1
  have g2H := Lib.hid g2
  have g3H := Lib.hid g3
  clear g1 g2 g3 hT1
  go_wp2_with fail
  refine (hC.out ⟨w1, Below.refl _ _⟩).mono ?_
  rintro e w2 ⟨rfl, t1, t2⟩
  have t1H := Lib.hid t1
  have t2H := Lib.hid t2
  clear t1 t2
  go_wp2
  go_ret
  have hre : RecAt L mem x (sl[k]'nH.out.lt).addr ws := by rw [haH.out]; exact hrH.out
  obtain ⟨u1, u2⟩ := hH.out.drop nH.out hRH.out hre g1H.out g2H.out (by rw [haH.out]; exact g3H.out) t1H.out t2H.out
  exact ⟨_, rfl, ⟨_, _, _, _, _, _, _, _, u1⟩, u2⟩
theorem inj_of_nodup_map {α β : Type} {f : α → β} : ∀ {l : List α}, (l.map f).Nodup → ∀ {x y : α}, x ∈ l → y ∈ l → f x = f y → x = y
  | [], _, x, y, hx, _, _ => by simp at hx
  | z :: t, hn, x, y, hx, hy, he => by
    rw [List.map_cons, List.nodup_cons] at hn
    rcases List.mem_cons.1 hx with e1 | h1
    · rcases List.mem_cons.1 hy with e2 | h2
      · rw [e1, e2]
      · exact absurd (List.mem_map.2 ⟨y, h2, by rw [← he, e1]⟩) hn.1
    · rcases List.mem_cons.1 hy with e2 | h2
      · exact absurd (List.mem_map.2 ⟨x, h1, by rw [he, e2]⟩) hn.1
      · exact inj_of_nodup_map hn.2 h1 h2 he
/-- how many words are granted -/
def WordsR (R : Nat → Option (List Nat)) (H : List Nat) (P n : Nat) : Prop := ∃ p, n = 64 * p ∧ p ≤ P ∧ (H = [] → p = 0) ∧ (H.map fun x => ((R x).getD []).length + 2).sum ≤ 64 * p
theorem runs_nil_of_blocks {L : HL} (hl : Lay L) (h : blocks L = []) : runs L = [] := by
  cases L with
  | nil => rfl
  | cons x t =>
    exfalso
    have hok := hl.ok x List.mem_cons_self
    obtain ⟨p, hd⟩ := x
    have : blocksOf (p, hd) = [] := by
      have := (List.append_eq_nil_iff.1 (show blocksOf (p, hd) ++ blocks t = [] from h)).1
      exact this
    cases hd with
    | large w => simp [blocksOf] at this
    | small c m =>
      obtain ⟨h1, h2, h3⟩ := hok
      apply h2
      apply Nat.eq_of_testBit_eq
      intro j
      rw [Nat.zero_testBit]
      by_cases hj : j < slotsN c
      · cases hb : m.testBit j with
        | false => rfl
        | true =>
          have hm : j ∈ slotsOf c m := mem_slotsOf.2 ⟨hj, hb⟩
          simp only [blocksOf, List.map_eq_nil_iff] at this
          rw [this] at hm; simp at hm
      · exact Nat.testBit_lt_two_pow (Nat.lt_of_lt_of_le h3 (Nat.pow_le_pow_right (by omega) (by omega)))
theorem sum_perm {l l' : List Nat} (h : l.Perm l') : l.sum = l'.sum := h.sum_nat
theorem StIn.words {a ha t : Nat} {v : Value} {L : HL} {mem : Nat → Nat} {sl : List Sl} {Fh : Nat → Prop} (h : StIn w s F R H P q most last G a ha t v L mem sl Fh) : WordsR R H P (64 * (runs L).length) := by
  refine ⟨(runs L).length, rfl, h.pages, fun hH => ?_, ?_⟩
  · have h1 := h.perm.length_eq
    rw [hH, List.length_map] at h1
    rw [runs_nil_of_blocks h.heap.lay (List.eq_nil_of_length_eq_zero h1.symm)]; rfl
  · refine Nat.le_trans ?_ (words_of_blocks (L := L) h.heap.lay.ok)
    rw [sum_perm (h.perm.map _), List.map_map]
    obtain ⟨g, hg⟩ : ∃ g : Nat × Nat → Nat, g = fun b => ((R (mem b.1)).getD []).length + 2 := ⟨_, rfl⟩
    have hle : ∀ l : List (Nat × Nat), (∀ b ∈ l, b ∈ blocks L) → (l.map g).sum ≤ (l.map (·.2)).sum := by
      intro l
      induction l with
      | nil => intro _; simp
      | cons b t ih =>
        intro hb
        have h1 := ih (fun c hc => hb c (List.mem_cons_of_mem _ hc))
        have hbm := hb b List.mem_cons_self
        have hx : mem b.1 ∈ H := h.perm.mem_iff.2 (List.mem_map.2 ⟨b, hbm, rfl⟩)
        obtain ⟨k, n⟩ := (h.inH _).1 hx
        obtain ⟨ws, h2, h3⟩ := h.link _ k n
        have h4 := bszN_ge (ws.length + 2)
        have hnd : ((blocks L).map fun b => mem b.1).Nodup := h.perm.nodup_iff.1 h.nodup
        have h5 : b = ((sl[k]'n.lt).addr, bszN (ws.length + 2)) := inj_of_nodup_map hnd hbm h3.blk h3.h0.symm
        have h6 : b.2 = bszN (ws.length + 2) := congrArg Prod.snd h5
        have h7 : g b = ws.length + 2 := by rw [hg]; simp only; rw [h2]; rfl
        simp only [List.map_cons, List.sum_cons]
        omega
    rw [show ((fun x => ((R x).getD []).length + 2) ∘ fun b : Nat × Nat => mem b.1) = g from hg.symm]
    exact hle _ (fun b hb => hb)
end
end Go.Proofs.YtjpmlneihbckpaaGreatDoor
/- The walks of store.Words, New. -/
set_option linter.unusedVariables false
set_option linter.unusedSimpArgs false
namespace Go.Proofs.YtjpmlneihbckpaaGreatDoor
open Go.RowKit Go.Shelf
section
variable {w w' : World} {s : Nat} {F : Nat → Prop} {R : Nat → Option (List Nat)} {H : List Nat} {P q most last G : Nat}
set_option maxRecDepth 100000 in
theorem swords_at (h : StoreIs w s F R H P q most last G) :
    Calls Tryz.prog 123 #[.pointer (some ⟨s, 0, none⟩)] w fun e w' => ∃ n : Nat, e = .returned (.int .i64 (n : Nat)) ∧ WordsR R H P n ∧ n ≤ 262144 ∧ Below w.heap.size w w' := by
  obtain ⟨a, ha, t, v, L, mem, sl, Fh, h⟩ := h
  have hN := Lib.hid (snone_at h)
  have hW := Lib.hid h.words
  have hca := h.ca
  obtain ⟨⟨mb, D, k1, rfl⟩, k3, k4⟩ := h.heap
  have hP := Lib.hid (pages_row k1.sl (runs_rise k3))
  have hle : 64 * (runs L).length ≤ 262144 := by have h1 := k1.sl.room; have h2 := k1.sl.quota; rw [k1.sl.count] at h1; omega
  have hlen4 : (runs L).length ≤ 4096 := by omega
  generalize (runs L).length = n at *
  clear h k1 k3 k4
  go_enter Tryz.func123, Tryz.ntmps123
  go_wp2_with fail
  refine hN.out.mono ?_
  rintro e w' ⟨rfl, rfl⟩
  go_wp2_with fail
  refine hP.out.mono ?_
  rintro e w1 ⟨v, rfl, hrow, hb⟩
  obtain ⟨A, c, rfl⟩ := ownsRow_form hrow
  have hbH := Lib.hid hb
  clear hrow hb
  go_wp2
  go_ret
  exact ⟨64 * n, by rw [show ((64 * n : Nat) : Int) = (n : Int) * 64 by push_cast; omega]; rfl, hW.out, hle, hbH.out⟩
end
theorem tab_lt {w : World} (h : Tab w) : 1 < w.heap.size := cell_lt (a := ⟨1, 0, none⟩) (h 0 (by decide))
set_option maxHeartbeats 1000000 in
set_option maxRecDepth 100000 in
theorem snew_at {w : World} (hT : Tab w) (q most last : Nat) (hq : q ≤ 262144) (h1 : 1 ≤ most) (h2 : most ≤ 65536) (h3 : 1 ≤ last) (h4 : last < 4294967296) :
    Calls Tryz.prog 17 #[.int .i64 (q : Nat), .int .i64 (most : Nat), .int .u32 (last : Nat)] w fun e w' => ∃ s F, e = .returned (.tuple #[.pointer (some ⟨s, 0, none⟩), .int .i64 0]) ∧ StoreIs w' s F (fun _ => none) [] 0 q most last 0 ∧ w.heap.size ≤ s ∧ (∀ b, F b → w.heap.size ≤ b) ∧ Below w.heap.size w w' := by
  have htl := tab_lt hT
  have hTH := Lib.hid hT
  clear hT
  go_enter Tryz.func17, Tryz.ntmps17
  go_wp2_with fail
  refine (slabNew_at q hq _).mono ?_
  rintro e w1 ⟨a, mb, rfl, hS1, ha1, hmb1, hb1⟩
  have hS1H := Lib.hid hS1
  have hb1H := Lib.hid hb1
  clear hS1 hb1
  go_wp2_with fail
  refine (hnew_at most last h1 h2 h3 h4 _).mono ?_
  rintro e w2 ⟨t, rfl, hT2, ht2, hb2⟩
  have hT2H := Lib.hid hT2
  have hb2H := Lib.hid hb2
  have hS2H := Lib.hid (hS1H.out.below hb2 (fun b hb => hS1H.out.lt hb))
  have hbw2 := Lib.hid (hb1H.out.trans (hb2.mono hb1H.out.size))
  clear hT2 hb2
  go_wp2_with fail
  refine (heapNew_at hS2H.out (hTH.out.below hbw2.out htl) (fun b hb => ?_)).mono ?_
  · rcases hb with rfl | rfl | ⟨p, hp⟩
    · omega
    · omega
    · cases hp
  rintro e w3 ⟨ha, rfl, hH3, hha3, hb3⟩
  have hH3H := Lib.hid hH3
  have hb3H := Lib.hid hb3
  have hT3H := Lib.hid (hT2H.out.below hb3)
  clear hH3 hb3
  go_wp2
  go_ret2
  have hbN : Below w3.heap.size w3 (w3.alloc (.cells #[.int .i64 (most : Nat), .int .u32 (last : Nat), .pointer (some ⟨a, 0, none⟩), .pointer (some ⟨ha, 0, none⟩), .pointer (some ⟨t, 0, none⟩)] 97)) := (Below.refl _ _).alloc (Nat.le_refl _) _
  have hsz1 := hb1H.out.size
  have hsz2 := hb2H.out.size
  have hsz3 := hb3H.out.size
  have ha_lt := hS1H.out.lt (.inl rfl : SlabF a mb (.map []) a)
  have hmb_lt := hS1H.out.lt (.inr (.inl rfl) : SlabF a mb (.map []) mb)
  have ht_lt := hT2H.out.lt (.inl rfl : HTabF t (.slice none 0 0) t)
  have hha_lt := hH3H.out.off.2.1
  have hF : ∀ b, SlabF a mb (.map []) b → b = a ∨ b = mb := fun b hb => by
    rcases hb with h | h | ⟨p, hp⟩
    · exact .inl h
    · exact .inr h
    · cases hp
  have hG : ∀ b, HTabF t (.slice none 0 0) b → b = t := fun b hb => by
    rcases hb with h | h
    · exact h
    · simp [Value.ownBlock] at h
  refine ⟨w3.heap.size, fun b => SlabF a mb (.map []) b ∨ HTabF t (.slice none 0 0) b, rfl, ⟨a, ha, t, .slice none 0 0, [], fun _ => 0, [], SlabF a mb (.map []), {
    ca := by go_simp
    ch := by go_simp
    ct := by go_simp
    heap := hH3H.out.below hbN
    tab := hT3H.out.below hbN
    F_eq := rfl
    apart := fun b hb hg => by have h1 := hG b hg; rcases hF b hb with h2 | h2 <;> omega
    soff := fun hf => by
      rcases hf with hf | hf
      · rcases hF _ hf with h2 | h2 <;> omega
      · have := hG _ hf; omega
    haoff := fun hf => by have := hG _ hf; omega
    tboff := fun b hb => by have := hG b hb; omega
    link := fun h k n => absurd n.lt (by simp)
    inH := fun h => ⟨fun hm => by simp at hm, fun ⟨k, n⟩ => absurd n.lt (by simp)⟩
    none' := fun _ _ => rfl
    perm := List.Perm.refl _
    nodup := List.Pairwise.nil
    pages := by simp [runs]
    gens := fun x hx => by simp at hx
    ret := fun x hx => by simp at hx }⟩, by omega, fun b hb => by
      rcases hb with hb | hb
      · rcases hF b hb with h2 | h2 <;> omega
      · have := hG b hb; omega, ?_⟩
  exact hbw2.out.trans ((hb3H.out.mono (by omega)).trans (hbN.mono (by omega)))
end Go.Proofs.YtjpmlneihbckpaaGreatDoor

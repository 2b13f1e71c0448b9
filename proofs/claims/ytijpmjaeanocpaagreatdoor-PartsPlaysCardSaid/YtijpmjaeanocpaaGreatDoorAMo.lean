/-
  The seat's own texts, part o: Blob, Blob2, Blob3, Bput, Node, Node2, Walk1, Walk2, Walk3, Walk4, Walk5, In1.
-/
import Derived.Test.YtijpmjaeanocpaaGreatDoorAMn
import Derived.Maps.OwnIn

set_option linter.unusedVariables false
set_option linter.unusedSimpArgs false
namespace Go.Proofs.YtijpmjaeanocpaaGreatDoor
open Go.RowKit Go.Shelf
attribute [local go_sem] Oper.semAt_some wide_fn
section
variable {w w' : World} {s N : Nat} {R : Nat → Option (List Nat)} {n : Nat}
theorem lenR_some {x : Nat} {ws : List Nat} (hR : R x = some ws) : lenR R x = .tuple #[.int .i64 (ws.length : Nat), .int .i64 0] := by unfold lenR; rw [hR]
theorem lenR_none {x : Nat} (hR : R x = none) : lenR R x = .tuple #[.int .i64 0, .int .i64 7] := by unfold lenR; rw [hR]
set_option maxRecDepth 100000 in
theorem words_calls (s x : Nat) (w : World) : Calls Tryz.prog 119 #[.pointer (some ⟨s, 0, none⟩), .int .u64 (x : Nat)] w fun e w' => e = .returned (.func (.func 174) #[] #[.pointer (some ⟨w.heap.size, 0, none⟩), .pointer (some ⟨w.heap.size + 1, 0, none⟩)]) ∧ w' = (w.alloc (.cells #[.pointer (some ⟨s, 0, none⟩)] 23)).alloc (.cells #[.int .u64 (x : Nat)] 30) := by
  go_enter Tryz.func119, Tryz.ntmps119
  go_wp2
  go_ret
  exact ⟨rfl, rfl⟩
set_option maxHeartbeats 2000000 in
set_option maxRecDepth 100000 in
theorem words_stops (h : Rd N w s R n) {x B1 B2 : Nat} {ws : List Nat} (hR : R x = some ws) (hB1 : w.cell? ⟨B1, 0, none⟩ = some (.pointer (some ⟨s, 0, none⟩))) (hB2 : w.cell? ⟨B2, 0, none⟩ = some (.int .u64 (x : Nat))) (c1 : B1 < N) (c2 : B2 < N) (cN : N ≤ w.heap.size) :
    SeqStopsK Fence.wide 8 Tryz.prog 174 #[.pointer (some ⟨B1, 0, none⟩), .pointer (some ⟨B2, 0, none⟩)] (fun z : {z : Nat // z < ws.length} => #[.int .u64 (ws[z.1]'z.2 : Nat)]) (KB (fun k => N ≤ k)) (fun xs => xs.map (·.1) = List.range ws.length) (fun pre => ∃ t, List.range ws.length = pre.map (·.1) ++ t) ws.length w := fun l J Jx W hBW hJ hJx hY h0 => by
  have H0 := Lib.hid (h.below hBW)
  have hb1 := (hBW.cell (p := ⟨B1, 0, none⟩) (cell_lt hB1)).trans hB1
  have hb2 := (hBW.cell (p := ⟨B2, 0, none⟩) (cell_lt hB2)).trans hB2
  obtain ⟨hx, hlen, hu⟩ := h.u64 hR
  have hLn := (callsIn_wide (n := 7)).2 (rlen_at H0.out x hx)
  rw [lenR_some hR] at hLn
  have hLnH := Lib.hid hLn
  have hRH := Lib.hid hR
  have huH := Lib.hid hu
  have J0 := Lib.hid h0
  clear hLn hBW hB1 hB2 h h0 hR hu
  refine callsIn_of_wp Tryz.func174 rfl trivial ?_ rfl
  simp only [Tryz.ntmps174, List.size_toArray, List.length_cons, List.length_nil, Nat.reduceAdd, Nat.reduceSub, Array.replicate_succ, Array.replicate_zero, List.push_toArray, List.append_toArray, List.nil_append, List.cons_append]
  gi_wp2_with fail
  refine hLnH.out.mono ?_
  rintro e w1 ⟨rfl, rfl⟩
  gi_wp2_with fail
  gi_loopw [16] (fun iv wr => ∃ (pre : List {z : Nat // z < ws.length}) (i : Nat), i ≤ ws.length ∧ iv = .int .i64 i ∧ Hid (pre.map (·.1) = List.range i) ∧ Hid (Rd N wr s R n) ∧ wr.cell? ⟨B1, 0, none⟩ = some (.pointer (some ⟨s, 0, none⟩)) ∧ wr.cell? ⟨B2, 0, none⟩ = some (.int .u64 (x : Nat)) ∧ Hid (J pre wr)) (fun iv _ => ws.length - (intOf iv).toNat)
  case atStart => exact ⟨[], 0, by omega, rfl, Lib.hid rfl, H0, hb1, hb2, J0⟩
  case round =>
    obtain ⟨pre, i, hi, rfl, hp, Hr, hc1, hc2, hj⟩ := hrel
    by_cases hlt : i < ws.length
    · have hG := Lib.hid ((callsIn_wide (n := 7)).2 (rget_at Hr.out hRH.out hlt))
      have hpl : pre.length = i := by have := congrArg List.length hp.out; simpa using this
      have hYH := Lib.hid hY
      clear hY hb1 hb2
      gi_wp2_with fail
      refine hG.out.mono ?_
      rintro e w2 ⟨rfl, rfl⟩
      gi_wp2_with fail
      obtain ⟨fn, tmps, assign, body, hy, hRr⟩ := hYH.out pre ⟨i, hlt⟩ _ hj.out (by omega)
      have hRH2 := Lib.hid hRr
      clear hRr
      rw [hy]
      gi_wp2
      refine (hRH2.out).mono ?_
      have hmap : Hid ((pre ++ [(⟨i, hlt⟩ : {z : Nat // z < ws.length})]).map (·.1) = List.range (i + 1)) := Lib.hid (by rw [List.map_append, hp.out, List.range_succ]; rfl)
      rintro e W2 (⟨rfl, hJ2, hK2⟩ | ⟨rfl, hJx2⟩)
      · have H4 := Lib.hid (Hr.out.kb hK2 (fun k hk => hk))
        have hd1 := hK2.cell hc1 (by simp; omega)
        have hd2 := hK2.cell hc2 (by simp; omega)
        have hJ4 := Lib.hid hJ2
        clear hJ2 hK2 hc1 hc2
        gi_wp2
        go_roundw
        case rel => exact ⟨pre ++ [⟨i, hlt⟩], i + 1, by omega, by go_num, hmap, H4, hd1, hd2, hJ4⟩
        case measure => simp [intOf]; omega
      · have hJx4 := Lib.hid hJx2
        clear hJx2
        gi_wp2
        refine bodyPost_ret (results_none rfl _ _ _) rfl ?_
        refine ⟨⟨_, rfl⟩, .inr ⟨_, ⟨(List.range ws.length).drop (i + 1), ?_⟩, hJx4.out⟩⟩
        rw [hmap.out]
        have := List.take_append_drop (i + 1) (List.range ws.length)
        rw [List.take_range, Nat.min_eq_left (by omega)] at this
        exact this.symm
    · obtain rfl : i = ws.length := by omega
      clear hY
      gi_wp2
      go_end0
      exact ⟨⟨_, rfl⟩, .inl ⟨_, hp.out, hj.out⟩⟩
end
end Go.Proofs.YtijpmjaeanocpaaGreatDoor

set_option linter.unusedVariables false
set_option linter.unusedSimpArgs false
namespace Go.Proofs.YtijpmjaeanocpaaGreatDoor
open Go.RowKit Go.Shelf
attribute [local go_sem] Oper.semAt_some wide_fn
theorem Tryz.under_words : Tryz.prog.underlying 199 = some (.slice 29) := by kernel_rfl
theorem Tryz.info_word : (Tryz.prog.info? 29).map (fun i => (i.zero, i.size, i.bytes)) = some (some (.int .u64 0), 1, 8) := by kernel_rfl
theorem KB.from_below {B N : Nat} {A C : World} (h : Below B A C) (hB : N ≤ B) : KB (fun k => N ≤ k) A C := ⟨h.size, fun k o hk _ hn => (h.block k (by omega)).trans hk⟩
def wordsV (l : List Nat) : List Value := l.map fun u => .int .u64 (u : Nat)
def RowI (w : World) (bt et : TypeId) (l : List Value) (W : World) : Prop := ∃ v, Boxed W w.heap.size bt v ∧ W.ownsRow w.heap.size et 1 v l.length l ∧ Below w.heap.size w W
theorem RowI.below {w X Y : World} {bt et : TypeId} {l : List Value} (h : RowI w bt et l X) (hb : Below X.heap.size X Y) : RowI w bt et l Y := by
  obtain ⟨v, h1, h2, h3⟩ := h
  exact ⟨v, (hb.block _ h1.lt).trans h1, ownsRow_kb (Cs := fun _ => False) h2 (KB.below hb) (fun _ h => h.elim), h3.trans (hb.mono h3.size)⟩
theorem rowI_own {β : Type} (w : World) (bt et : TypeId) (f : β → List Value) (n : Nat) (hn : w.heap.size ≤ n) : OwnFrom n (fun s W => RowI w bt et (f s) W) := fun s X Y row hs hg hr => by
  obtain ⟨v, h1, h2, h3⟩ := hs
  obtain ⟨v', a, b, _⟩ := holdsRow_own w.heap.size w.heap.size bt et 1 (fun s => (f s).length) (fun s => f s) (fun _ _ => True) s X Y row ⟨v, h1, h2, trivial⟩ hg (fun r e => (hr r e).2)
  exact ⟨v', a, b, ownFrom_below (β := β) (Nat.le_refl _) hn s X Y row h3 hg hr⟩
theorem row_append {w W w1 : World} {bt et : TypeId} {l l' : List Value} {v v' : Value} {tmp : Obj} (hbe : bt ≠ et) (hv : Boxed W w.heap.size bt v) (hrow : W.ownsRow w.heap.size et 1 v l.length l) (hb : Below w.heap.size w W)
    (hown' : w1.ownsRow w.heap.size et 1 v' l'.length l') (hgrow : (W.alloc tmp).grownBy w1 v.ownBlock) :
    Boxed w1 w.heap.size bt v ∧ RowI w bt et l' (w1.setCell ⟨w.heap.size, 0, none⟩ v') ∧ KeepsOthers W (w1.setCell ⟨w.heap.size, 0, none⟩ v') ∧ Below w.heap.size W (w1.setCell ⟨w.heap.size, 0, none⟩ v') := by
  obtain ⟨a1, a2, a3, a4, a5⟩ := hv.appended hbe hrow hb.size (Nat.le_refl _) hown' hgrow
  exact ⟨a1, ⟨v', a2, a3, hb.trans a5⟩, a4, a5⟩
theorem words_row {ws : List Nat} {xs : List {z : Nat // z < ws.length}} (h : xs.map (·.1) = List.range ws.length) : xs.map (fun (z : {z : Nat // z < ws.length}) => Value.int .u64 (ws[z.1]'z.2 : Nat)) = wordsV ws := by
  have h1 : xs.map (fun (z : {z : Nat // z < ws.length}) => Value.int .u64 (ws[z.1]'z.2 : Nat)) = (xs.map (·.1)).map fun i => Value.int .u64 (ws[i]?.getD 0 : Nat) := by
    rw [List.map_map]
    refine List.map_congr_left fun z _ => ?_
    simp [z.2]
  rw [h1, h]
  refine List.ext_getElem (by simp [wordsV]) fun i h1 h2 => ?_
  simp only [List.length_map, List.length_range] at h1
  simp [wordsV, h1]
section
variable {w w' : World} {s N : Nat} {R : Nat → Option (List Nat)} {n : Nat}
set_option maxHeartbeats 4000000 in
set_option maxRecDepth 100000 in
theorem appendSeq_at (h : Rd N w s R n) {x B1 B2 : Nat} {ws : List Nat} (hR : R x = some ws) (hB1 : w.cell? ⟨B1, 0, none⟩ = some (.pointer (some ⟨s, 0, none⟩))) (hB2 : w.cell? ⟨B2, 0, none⟩ = some (.int .u64 (x : Nat))) (c1 : B1 < N) (c2 : B2 < N) (cN : N ≤ w.heap.size) :
    CallsIn Fence.wide 9 Tryz.prog 173 #[.slice none 0 0, .func (.func 174) #[] #[.pointer (some ⟨B1, 0, none⟩), .pointer (some ⟨B2, 0, none⟩)]] w fun e w' => ∃ v, e = .returned v ∧ w'.ownsRow w.heap.size 29 1 v ws.length (wordsV ws) ∧ Below w.heap.size w w' := by
  obtain ⟨i0, hi, hz0, hz1, hz2⟩ := info_parts Tryz.info_word
  have hlen := (h.u64 hR).2.1
  have HH := Lib.hid h
  have hRH := Lib.hid hR
  clear h hR
  refine callsIn_of_wp_marks Tryz.func173 rfl trivial ?_ rfl
  simp only [Tryz.ntmps173, List.size_toArray, List.length_cons, List.length_nil, Nat.reduceAdd, Nat.reduceSub, Array.replicate_succ, Array.replicate_zero, List.push_toArray, List.append_toArray, List.nil_append, List.cons_append]
  gi_wp2_with fail
  have hbx : Boxed (w.alloc (Obj.cells #[Value.slice none 0 0] 199)) w.heap.size 199 (.slice none 0 0) := Boxed.new w _ _
  have hb2w : Below w.heap.size w (w.alloc (Obj.cells #[Value.slice none 0 0] 199)) := (Below.refl _ w).alloc (Nat.le_refl _) _
  have hx1 := (hb2w.cell (p := ⟨B1, 0, none⟩) (cell_lt hB1)).trans hB1
  have hx2 := (hb2w.cell (p := ⟨B2, 0, none⟩) (cell_lt hB2)).trans hB2
  have HH2 := Lib.hid (HH.out.below hb2w)
  have hz2' : w.heap.size + 1 ≤ (w.alloc (Obj.cells #[Value.slice none 0 0] 199)).heap.size := by simp
  generalize w.alloc (Obj.cells #[Value.slice none 0 0] 199) = w2 at *
  refine wpIn_rangeFunc_ownH (α := {z : Nat // z < ws.length}) rfl (by omega) (gf := 174) (lb := #[.pointer (some ⟨B1, 0, none⟩), .pointer (some ⟨B2, 0, none⟩)]) rfl trivial (enters_of Tryz.func174 (by kernel_rfl) rfl)
    (words_stops HH2.out hRH.out hx1 hx2 c1 c2 (by omega))
    (fun h k => h.trans k) (fun W l o o' _ hl h1 h2 => KB.putObj o' hl h1 h2) (Below.refl _ _) (fun _ => rfl)
    (fun pre W => RowI w 199 29 (pre.map (fun (z : {z : Nat // z < ws.length}) => Value.int .u64 (ws[z.1]'z.2 : Nat))) W)
    (fun cd pre W => False)
    (rowI_own w _ _ (fun pre : List {z : Nat // z < ws.length} => pre.map (fun (z : {z : Nat // z < ws.length}) => Value.int .u64 (ws[z.1]'z.2 : Nat))) _ (by omega))
    (fun _ _ _ _ _ hs _ _ => hs)
    ⟨_, hbx, World.ownsRow_nil _ _ _ _, hb2w⟩
    (fun z a' W => a' = { tmps := #[Value.slice none 0 0, Value.func (Fn.func 174) #[] #[Value.pointer (some { block := B1, off := 0 }), Value.pointer (some { block := B2, off := 0 })], Value.pointer (some { block := w.heap.size, off := 0 }), undef, Value.slice none 0 0, Value.int IntKind.u64 (ws[z.1]'z.2 : Nat), Value.func (Fn.func 174) #[] #[Value.pointer (some { block := B1, off := 0 }), Value.pointer (some { block := B2, off := 0 })], Value.int IntKind.u64 (ws[z.1]'z.2 : Nat), undef, undef, undef, undef, undef], defers := [] })
    (fun _ _ _ _ _ _ hs _ _ => hs)
    ?assign ?body ?done ?stop
  case assign =>
    rintro l pre ⟨z, hz⟩ W K hi hK
    dsimp only at hK ⊢
    gi_wp2
    exact hK _ W (KeepsOthers.refl _ |>.from _) (KB.refl _ _) hi rfl
  case body =>
    rintro l pre ⟨z, hz⟩ a' W hl ⟨r, hr⟩ hi rfl hlen
    dsimp only
    obtain ⟨v, hv, hrow, hb⟩ := hi
    have hnext : Hid ((pre ++ [(⟨z, hz⟩ : {z : Nat // z < ws.length})]).map (fun (z : {z : Nat // z < ws.length}) => Value.int .u64 (ws[z.1]'z.2 : Nat)) = pre.map (fun (z : {z : Nat // z < ws.length}) => Value.int .u64 (ws[z.1]'z.2 : Nat)) ++ [Value.int .u64 (ws[z] : Nat)]) := Lib.hid (by rw [List.map_append]; rfl)
    have hpl : (pre.map (fun (z : {z : Nat // z < ws.length}) => Value.int .u64 (ws[z.1]'z.2 : Nat))).length ≤ 3998 := by rw [List.length_map]; omega
    generalize pre.map (fun (z : {z : Nat // z < ws.length}) => Value.int .u64 (ws[z.1]'z.2 : Nat)) = told at *
    have hc := hv.cell
    have hbH := Lib.hid hb
    have hrowH := Lib.hid hrow
    have hvH := Lib.hid hv
    clear hb hrow hv
    have hz : w.heap.size ≤ W.heap.size := hbH.out.size
    gi_wp2_with (gi_at_builtin; refine wpListIn_append_own_at _ rfl _ _ 199 rfl w.heap.size 29 i0 (.int .u64 0) 1 8 Tryz.under_words hi hz0 hz1 hz2 rfl (by decide) _ _ _ rfl (hrowH.out.alloc _) ⟨W.heap.size, 0, none⟩ 1 1 [.int .u64 (ws[z] : Nat)] rfl rfl (cell_one_new _ _ _) (by simp [Value.oneCell']) (by unfold maxLen; omega) (by omega) (by simp; omega) ?_; intro v' w1 hown' hgrow _ hblk; obtain ⟨g', cap', rfl⟩ := ownsRow_succ hown'; obtain ⟨b1, b2, b4, b5⟩ := row_append (l' := told ++ [Value.int .u64 (ws[z] : Nat)]) (by decide) hvH.out hrowH.out hbH.out (by simpa using hown') hgrow; have hc1 := b1.cell; have hf1 := b1.frozen)
    exact ⟨b4.from _, KB.from_below b5 cN, by show RowI w _ _ _ _; rw [hnext.out]; exact b2⟩
  case done =>
    rintro D' xs W hD hxs hi hK
    have hrw := words_row hxs
    rw [hrw] at hi
    have hwl : (wordsV ws).length = ws.length := by simp [wordsV]
    obtain ⟨v, hv, hrow, hb⟩ := hi
    rw [hwl] at hrow
    have hc := hv.cell
    have hbH := Lib.hid hb
    have hrowH := Lib.hid hrow
    clear hb hrow hv hxs hrw
    gi_wp2
    refine ⟨by simp, .inl ⟨_, _, rfl, run_takeDeferred hK, ?_⟩⟩
    refine ⟨v, by simp [results, Tryz.f173], v, rfl, ownsRow_kb (Cs := fun _ => False) hrowH.out (KB.putObj _ hK rfl rfl) (fun _ h => h.elim), ?_⟩
    exact hbH.out.trans (belowK_b (w := w) (Nat.le_refl _) _ D' _ _ (by omega) hK rfl rfl)
  case stop =>
    rintro D' cd pre W hD hSp hf
    exact hf.elim
set_option maxRecDepth 100000 in
theorem collect_at (h : Rd N w s R n) {x B1 B2 : Nat} {ws : List Nat} (hR : R x = some ws) (hB1 : w.cell? ⟨B1, 0, none⟩ = some (.pointer (some ⟨s, 0, none⟩))) (hB2 : w.cell? ⟨B2, 0, none⟩ = some (.int .u64 (x : Nat))) (c1 : B1 < N) (c2 : B2 < N) (cN : N ≤ w.heap.size) :
    Calls Tryz.prog 118 #[.func (.func 174) #[] #[.pointer (some ⟨B1, 0, none⟩), .pointer (some ⟨B2, 0, none⟩)]] w fun e w' => ∃ A c, e = .returned (.slice A ws.length c) ∧ Tx.U64s w' A ws ∧ Below w.heap.size w w' := by
  have hA := Lib.hid ((callsIn_wide (n := 9)).1 (appendSeq_at h hR hB1 hB2 c1 c2 cN))
  clear h hR hB1 hB2
  go_enter Tryz.func118, Tryz.ntmps118
  go_wp2_with fail
  refine hA.out.mono ?_
  rintro e w1 ⟨v, rfl, hrow, hb⟩
  obtain ⟨A, c, rfl⟩ := ownsRow_form hrow
  have hrowH := Lib.hid hrow
  have hbH := Lib.hid hb
  clear hrow hb
  go_wp2
  go_ret
  refine ⟨A, c, rfl, ?_, hbH.out⟩
  rcases hrowH.out.2 with ⟨h1, h2⟩ | ⟨g, cap, cur, h1, h2, h3, h4⟩
  · exact .inl (List.eq_nil_of_length_eq_zero h2)
  · cases h1
    refine .inr ⟨g, 0, rfl, (Array.getElem?_eq_some_iff.1 h3).1, fun j hj => ?_⟩
    rw [Nat.zero_add]
    have h9 := hrowH.out.cells (g := g) rfl j (.int .u64 (ws[j]?.getD 0 : Nat)) (by simp [wordsV, hj])
    have he : (⟨g, 0, none⟩ : Addr).add j = ⟨g, j, none⟩ := by
      unfold Addr.add
      split
      · next h0 => have : j = 0 := by simpa using h0
                   rw [this]
      · simp
    rw [← he]
    exact h9
end
end Go.Proofs.YtijpmjaeanocpaaGreatDoor

set_option linter.unusedVariables false
set_option linter.unusedSimpArgs false
namespace Go.Proofs.YtijpmjaeanocpaaGreatDoor
open Go.RowKit Go.Shelf
def blobR (R : Nat → Option (List Nat)) (x : Nat) : Option ByteArray :=
  match R x with
  | some ws => if Tx.isText ws then some (Tx.textOf ws) else none
  | none => none
def blobE (R : Nat → Option (List Nat)) (x : Nat) : Nat :=
  match R x with
  | some ws => if Tx.isText ws then 0 else 8
  | none => 7
def blobV (R : Nat → Option (List Nat)) (x : Nat) : Value := .tuple #[.string ((blobR R x).getD ⟨#[]⟩), .int .i64 (blobE R x : Nat)]
def Short (R : Nat → Option (List Nat)) : Prop := ∀ x ws, R x = some ws → ws.length ≤ 200
theorem blobV_some {R : Nat → Option (List Nat)} {x : Nat} {ws : List Nat} (h : R x = some ws) : blobV R x = Tx.ofR ws := by
  unfold blobV blobR blobE Tx.ofR
  rw [h]
  by_cases ht : Tx.isText ws
  · simp only [if_pos ht]; rfl
  · simp only [if_neg ht]; rfl
theorem blobV_none {R : Nat → Option (List Nat)} {x : Nat} (h : R x = none) : blobV R x = .tuple #[.string ⟨#[]⟩, .int .i64 7] := by
  unfold blobV blobR blobE
  rw [h]
  rfl
section
variable {w w' : World} {s N : Nat} {R : Nat → Option (List Nat)} {n : Nat}
set_option maxRecDepth 100000 in
theorem bget_at (h : Rd N w s R n) (hsh : Short R) (x : Nat) (hx : x < 18446744073709551616) :
    Calls Tryz.prog 62 #[.pointer (some ⟨s, 0, none⟩), .int .u64 (x : Nat)] w fun e w' => e = .returned (blobV R x) ∧ Below w.heap.size w w' := by
  have hL := Lib.hid (rlen_at h x hx)
  have hH := Lib.hid h
  cases hR : R x with
  | none =>
    rw [lenR_none hR] at hL
    rw [blobV_none hR]
    clear hR h
    go_enter Tryz.func62, Tryz.ntmps62
    go_wp2_with fail
    refine hL.out.mono ?_
    rintro e w1 ⟨rfl, rfl⟩
    go_wp2
    go_ret2
    exact ⟨rfl, Below.refl _ _⟩
  | some ws =>
    rw [lenR_some hR] at hL
    obtain ⟨_, _, hu⟩ := h.u64 hR
    have hlt : Hid (∀ j : Nat, ws[j]?.getD 0 < 18446744073709551616) := Lib.hid (fun j => by
      by_cases hj : j < ws.length
      · rw [List.getElem?_eq_getElem hj]; exact hu j hj
      · rw [List.getElem?_eq_none (by omega)]; simp)
    have h200 := Lib.hid (hsh x ws hR)
    have hWd := Lib.hid (fun w => words_calls s x w)
    have hRH := Lib.hid hR
    have hs := Lib.hid (blobV_some hR)
    clear hR h hu
    go_enter Tryz.func62, Tryz.ntmps62
    go_wp2_with fail
    refine hL.out.mono ?_
    rintro e w1 ⟨rfl, rfl⟩
    go_wp2_with fail
    refine (hWd.out _).mono ?_
    rintro e w2 ⟨rfl, hw2⟩
    have hb2 : Below w.heap.size w w2 := by rw [hw2]; exact ((Below.refl _ w).alloc (Nat.le_refl _) _).alloc (by simp) _
    have hx1 : w2.cell? ⟨w.heap.size, 0, none⟩ = some (.pointer (some ⟨s, 0, none⟩)) := by rw [hw2]; go_simp
    have hx2 : w2.cell? ⟨w.heap.size + 1, 0, none⟩ = some (.int .u64 (x : Nat)) := by rw [hw2]; go_simp
    have hz2 : w.heap.size + 2 ≤ w2.heap.size := by rw [hw2]; simp
    have hr2 := hH.out.below hb2
    have hC := Lib.hid (collect_at (hH.out.here.below hb2 |>.mono (show w.heap.size ≤ w.heap.size + 2 by omega)) hRH.out hx1 hx2 (by omega) (by omega) hz2)
    have hb2H := Lib.hid hb2
    clear hw2 hx1 hx2 hr2 hb2
    go_wp2_with fail
    refine hC.out.mono ?_
    rintro e w3 ⟨A, c, rfl, hU, hb3⟩
    have hO := Lib.hid (Tx.of_any A c ws.length ws w3 rfl h200.out hU hlt.out)
    have hb3H := Lib.hid (hb2H.out.trans (hb3.mono hb2H.out.size))
    clear hU hb3
    go_wp2_with fail
    refine hO.out.mono ?_
    rintro e w4 ⟨rfl, hb4⟩
    have hb4H := Lib.hid (hb3H.out.trans (hb4.mono hb3H.out.size))
    clear hb4
    by_cases ht : Tx.isText ws
    · rw [Tx.ofR_yes ht]
      go_wp2
      go_ret2
      exact ⟨by rw [hs.out, Tx.ofR_yes ht]; rfl, hb4H.out⟩
    · rw [Tx.ofR_no ht]
      go_wp2
      go_ret2
      exact ⟨by rw [hs.out, Tx.ofR_no ht]; rfl, hb4H.out⟩
end
end Go.Proofs.YtijpmjaeanocpaaGreatDoor

set_option linter.unusedVariables false
set_option linter.unusedSimpArgs false
namespace Go.Proofs.YtijpmjaeanocpaaGreatDoor
open Go.RowKit Go.Shelf
def MadeW (w : World) (s : Nat) (F : Nat → Prop) (R : Nat → Option (List Nat)) (H : List Nat) (P q most last G : Nat) (ws : List Nat) (e : Ending) (w' : World) : Prop :=
  (∃ x F', R x = none ∧ x ≠ 0 ∧ x < 18446744073709551616 ∧ e = .returned (.tuple #[.int .u64 (x : Nat), .int .i64 0]) ∧ StoreIs w' s F' (updR R x (some ws)) (x :: H) (P + pgsN (ws.length + 2)) q most last (G + 1) ∧ Turn w F w' F') ∨
  (∃ er F', e = .returned (.tuple #[.int .u64 0, .int .i64 (er : Nat)]) ∧ ((er = 3 ∧ q < (P + pgsN (ws.length + 2)) * 64) ∨ (er = 10 ∧ (most ≤ H.length ∨ last ≤ G))) ∧ StoreIs w' s F' R H (P + pgsN (ws.length + 2)) q most last G ∧ Turn w F w' F')
theorem lenR_form (R : Nat → Option (List Nat)) (x : Nat) : ∃ a b : Nat, lenR R x = .tuple #[.int .i64 (a : Nat), .int .i64 (b : Nat)] ∧ b ≠ 1 := by
  unfold lenR
  cases R x with
  | none => exact ⟨0, 7, rfl, by decide⟩
  | some ws => exact ⟨ws.length, 0, rfl, by decide⟩
theorem updR_twice (R : Nat → Option (List Nat)) (x : Nat) (o o' : Option (List Nat)) : updR (updR R x o) x o' = updR R x o' := by
  funext y; unfold updR; split <;> rfl
def part (ws : List Nat) (k : Nat) : List Nat := ws.take k ++ List.replicate (ws.length - k) 0
theorem part_len (ws : List Nat) (k : Nat) : (part ws k).length = ws.length := by unfold part; simp; omega
theorem part_zero (ws : List Nat) : part ws 0 = List.replicate ws.length 0 := by unfold part; simp
theorem part_all (ws : List Nat) : part ws ws.length = ws := by unfold part; simp
theorem part_at (ws : List Nat) (k i : Nat) (hk : k ≤ ws.length) : (part ws k)[i]? = if i < k then ws[i]? else if i < ws.length then some 0 else none := by
  unfold part
  rw [List.getElem?_append, List.length_take, Nat.min_eq_left hk]
  by_cases h : i < k
  · rw [if_pos h, if_pos h, List.getElem?_take, if_pos h]
  · rw [if_neg h, if_neg h, List.getElem?_replicate]
    by_cases h2 : i < ws.length
    · rw [if_pos h2, if_pos (by omega)]
    · rw [if_neg h2, if_neg (by omega)]
theorem part_set (ws : List Nat) (k : Nat) (hk : k < ws.length) : (part ws k).set k ws[k] = part ws (k + 1) := by
  refine List.ext_getElem? fun i => ?_
  rw [List.getElem?_set, part_at ws k i (by omega), part_at ws (k + 1) i (by omega), part_len]
  by_cases e : k = i
  · subst e
    rw [if_pos rfl, if_pos hk, if_pos (by omega), List.getElem?_eq_getElem hk]
  · rw [if_neg e]
    by_cases h : i < k
    · rw [if_pos h, if_pos (by omega)]
    · rw [if_neg h, if_neg (show ¬ i < k + 1 by omega)]
theorem U64s_turn {w w' : World} {A : Option Addr} {l : List Nat} {F F' : Nat → Prop} (h : Tx.U64s w A l) (ht : Turn w F w' F') (hF : ∀ r, A = some r → ¬ F r.block) : Tx.U64s w' A l := by
  rcases h with h | ⟨b, o, rfl, hlt, hc⟩
  · exact .inl h
  · exact .inr ⟨b, o, rfl, Nat.lt_of_lt_of_le hlt ht.size, fun j hj => ht.cell (hc j hj) (hF ⟨b, o, none⟩ rfl)⟩
section
variable {w w' : World} {s : Nat} {F : Nat → Prop} {R : Nat → Option (List Nat)} {H : List Nat} {P q most last G : Nat}
set_option maxHeartbeats 2000000 in
set_option maxRecDepth 100000 in
theorem bput_at (h : StoreIs w s F R H P q most last G) (b : ByteArray) (hb : b.size ≤ 1000) :
    Calls Tryz.prog 65 #[.pointer (some ⟨s, 0, none⟩), .string b] w (MadeW w s F R H P q most last G (Tx.wordsL b.data.toList)) := by
  have hL := Lib.hid (slen_at h 0 (by decide))
  obtain ⟨la, lb, hlr, hl1⟩ := lenR_form R 0
  rw [hlr] at hL
  have d1 : ((lb : Int) == 1) = false := by simp; omega
  have hW := Lib.hid (Tx.words_any b w hb)
  have hwl : (Tx.wordsL b.data.toList).length = Tx.many b.size := by rw [Tx.wordsL_length, Tx.size_list]
  have hm1 : Tx.many b.size ≤ 126 := by unfold Tx.many; omega
  have hget := Lib.hid (fun j (hj : j < Tx.many b.size) => Tx.wordsL_get b.data.toList j (by rw [Tx.size_list]; exact hj))
  have hlt := Lib.hid (Tx.wordsL_lt b hb)
  have hH := Lib.hid h
  obtain ⟨ws, hws⟩ : ∃ ws, ws = Tx.wordsL b.data.toList := ⟨_, rfl⟩
  obtain ⟨m, hm⟩ : ∃ m, m = Tx.many b.size := ⟨_, rfl⟩
  rw [← hws] at hwl hget hlt ⊢
  rw [← hm] at hwl hm1 hget hW
  have hwlH := Lib.hid hwl
  clear hlr hl1 h hws hm hwl
  go_enter Tryz.func65, Tryz.ntmps65
  go_wp2_with fail
  refine hL.out.mono ?_
  rintro e w1 ⟨rfl, rfl⟩
  go_wp2_with fail
  refine hW.out.mono ?_
  rintro e w1 ⟨rfl, hrow, hb1⟩
  have hU : Hid (Tx.U64s w1 (some ⟨w.heap.size, 0, none⟩) ws) := Lib.hid (.inr ⟨_, _, rfl, hrow.lt, fun j hj => by
    rw [hwlH.out] at hj
    rw [Nat.zero_add, hrow.cell hj, hget.out j hj]
    rfl⟩)
  have hM := Lib.hid (smake_at (hH.out.below hb1) m (by omega))
  have hb1H := Lib.hid hb1
  have hFr : Hid (¬ F w.heap.size) := Lib.hid (fun hf => by have := hH.out.lt hf; omega)
  have hwlt : w.heap.size < w1.heap.size := hrow.lt
  clear hrow hb1 hget hL hW
  go_wp2_with fail
  refine hM.out.mono ?_
  rintro e w2 (⟨x, F', hx0, hxn, hx64, rfl, hS, hT⟩ | ⟨er, F', rfl, her, hS, hT⟩)
  · have hT2 := Lib.hid ((Turn.below hb1H.out).trans hT)
    have hFn := Lib.hid (hT.not hwlt hFr.out)
    have hU2 := Lib.hid (U64s_turn hU.out hT (fun r e => by cases e; exact hFr.out))
    have hS2 : Hid (StoreIs w2 s F' (updR R x (some (part ws 0))) (x :: H) (P + pgsN (ws.length + 2)) q most last (G + 1)) := Lib.hid (by rw [part_zero, hwlH.out]; exact hS)
    have hx0H := Lib.hid hx0
    clear hS hT hM hU hH hx0
    go_wp2_with fail
    go_loopw [40] (fun iv wr => ∃ k : Nat, k ≤ m ∧ iv = .int .i64 k ∧ Hid (StoreIs wr s F' (updR R x (some (part ws k))) (x :: H) (P + pgsN (ws.length + 2)) q most last (G + 1)) ∧ Hid (Turn w F wr F') ∧ Hid (Tx.U64s wr (some ⟨w.heap.size, 0, none⟩) ws)) (fun iv _ => m - (intOf iv).toNat)
    case atStart => exact ⟨0, by omega, rfl, hS2, hT2, hU2⟩
    case round =>
      obtain ⟨k, hk, rfl, hSr, hTr, hUr⟩ := hrel
      by_cases hlt2 : k < m
      · obtain ⟨b', o', he, _, hc⟩ := hUr.out.resolve_left (fun e => by have := hwlH.out; rw [e] at this; simp at this; omega)
        simp only [Option.some.injEq, Addr.mk.injEq] at he
        obtain ⟨rfl, rfl, _⟩ := he
        have hck := hc k (by rw [hwlH.out]; exact hlt2)
        rw [Nat.zero_add] at hck
        have hkl : k < ws.length := by rw [hwlH.out]; exact hlt2
        have hPt := sput_at hSr.out (x := x) (i := k) (u := ws[k]?.getD 0) (ws := part ws k) (updR_same _ _ _) (by rw [part_len]; exact hkl) (hlt.out k)
        rw [updR_twice, List.getElem?_eq_getElem hkl] at hPt
        simp only [Option.getD_some] at hPt
        rw [part_set ws k hkl] at hPt
        rw [List.getElem?_eq_getElem hkl] at hck
        simp only [Option.getD_some] at hck
        have hPH := Lib.hid hPt
        have hklH := Lib.hid hkl
        generalize hu : ws[k] = u at *
        clear hc hPt hkl hu
        go_wp2_with fail
        refine hPH.out.mono ?_
        rintro e w3 ⟨rfl, hS3, hT3⟩
        have hS3H := Lib.hid hS3
        have hT3H := Lib.hid (hTr.out.trans hT3)
        have hU3 := Lib.hid (U64s_turn hUr.out hT3 (fun r e => by cases e; exact hFn.out))
        clear hS3 hT3 hck
        go_wp2
        go_roundw
        case rel => exact ⟨k + 1, by omega, by go_num, hS3H, hT3H, hU3⟩
        case measure => simp [intOf]; omega
      · obtain rfl : k = m := by omega
        go_wp2
        go_ret2
        refine .inl ⟨x, F', hx0H.out, hxn, hx64, rfl, ?_, hTr.out⟩
        have := hSr.out
        rw [← hwlH.out, part_all] at this
        exact this
  · have hT2 := Lib.hid ((Turn.below hb1H.out).trans hT)
    have hSH := Lib.hid hS
    have herH := Lib.hid her
    have d2 : ((er : Int) != 0) = true := by simp; omega
    clear hS hT hM hU hH her
    go_wp2
    go_ret2
    refine .inr ⟨er, F', rfl, ?_, ?_, hT2.out⟩
    · rw [hwlH.out]; exact herH.out
    · rw [hwlH.out]; exact hSH.out
end
end Go.Proofs.YtijpmjaeanocpaaGreatDoor

set_option linter.unusedVariables false
set_option linter.unusedSimpArgs false
namespace Go.Proofs.YtijpmjaeanocpaaGreatDoor
open Go.RowKit Go.Shelf
structure Nd where
  key : Nat
  val : Nat
  left : Nat
  right : Nat
  mark : Nat
  size : Nat
def Nd.v (x : Nd) : Value := .agg #[.int .u64 (x.key : Nat), .int .u64 (x.val : Nat), .int .u64 (x.left : Nat), .int .u64 (x.right : Nat), .int .u64 (x.mark : Nat), .int .u64 (x.size : Nat)]
def Nd.ws (x : Nd) : List Nat := [x.key, x.val, x.left, x.right, x.mark, x.size]
def Nd.zero : Nd := ⟨0, 0, 0, 0, 0, 0⟩
def ndOf (ws : List Nat) : Nd := ⟨ws[0]?.getD 0, ws[1]?.getD 0, ws[2]?.getD 0, ws[3]?.getD 0, ws[4]?.getD 0, ws[5]?.getD 0⟩
theorem ws_ndOf {ws : List Nat} (h : ws.length = 6) : (ndOf ws).ws = ws := by
  match ws, h with
  | [a, b, c, d, e, f], _ => rfl
structure Nd.Ok (x : Nd) : Prop where
  key : x.key < 18446744073709551616
  val : x.val < 18446744073709551616
  left : x.left < 18446744073709551616
  right : x.right < 18446744073709551616
  mark : x.mark < 18446744073709551616
  size : x.size < 18446744073709551616
def nodeR (R : Nat → Option (List Nat)) (x : Nat) : Option Nd :=
  match R x with
  | some ws => if ws.length = 6 then some (ndOf ws) else none
  | none => none
def nodeE (R : Nat → Option (List Nat)) (x : Nat) : Nat :=
  match R x with
  | some ws => if ws.length = 6 then 0 else 8
  | none => 7
def nodeG (R : Nat → Option (List Nat)) (x : Nat) : Nd := (nodeR R x).getD Nd.zero
def nodeV (R : Nat → Option (List Nat)) (x : Nat) : Value := .tuple #[(nodeG R x).v, .int .i64 (nodeE R x : Nat)]
theorem nodeE_zero {R : Nat → Option (List Nat)} {x : Nat} : nodeE R x = 0 ↔ ∃ nd, nodeR R x = some nd := by
  unfold nodeE nodeR
  cases R x with
  | none => simp
  | some ws => by_cases h : ws.length = 6 <;> simp [h]
theorem nodeR_some {R : Nat → Option (List Nat)} {x : Nat} {nd : Nd} (h : nodeR R x = some nd) : R x = some nd.ws := by
  unfold nodeR at h
  cases hR : R x with
  | none => rw [hR] at h; cases h
  | some ws =>
    rw [hR] at h
    simp only at h
    by_cases hl : ws.length = 6
    · rw [if_pos hl] at h
      cases h
      rw [ws_ndOf hl]
    · rw [if_neg hl] at h; cases h
theorem nodeR_of {R : Nat → Option (List Nat)} {x : Nat} {nd : Nd} (h : R x = some nd.ws) : nodeR R x = some nd := by
  unfold nodeR
  rw [h]
  rfl
section
variable {w w' : World} {s N : Nat} {R : Nat → Option (List Nat)} {n : Nat}
theorem Rd.node (h : Rd N w s R n) {x : Nat} {nd : Nd} (hR : nodeR R x = some nd) : nd.Ok := by
  obtain ⟨_, _, hu⟩ := h.u64 (nodeR_some hR)
  exact ⟨hu 0 (by simp [Nd.ws]), hu 1 (by simp [Nd.ws]), hu 2 (by simp [Nd.ws]), hu 3 (by simp [Nd.ws]), hu 4 (by simp [Nd.ws]), hu 5 (by simp [Nd.ws])⟩
theorem Nd.Ok.zero : Nd.zero.Ok := ⟨by decide, by decide, by decide, by decide, by decide, by decide⟩
theorem Rd.nodeG (h : Rd N w s R n) (x : Nat) : (nodeG R x).Ok := by
  unfold Go.Proofs.YtijpmjaeanocpaaGreatDoor.nodeG
  cases hR : nodeR R x with
  | none => exact Nd.Ok.zero
  | some nd => exact h.node hR
set_option maxRecDepth 100000 in
theorem asked_at (h : Rd N w s R n) (x : Nat) (hx : x < 18446744073709551616) :
    Calls Tryz.prog 116 #[.pointer (some ⟨s, 0, none⟩), .int .u64 (x : Nat)] w fun e w' => e = .returned (.int .i64 (nodeE R x : Nat)) ∧ w = w' := by
  have hL := Lib.hid (rlen_at h x hx)
  cases hR : R x with
  | none =>
    rw [lenR_none hR] at hL
    have hv : nodeE R x = 7 := by unfold nodeE; rw [hR]
    rw [hv]
    clear hR h hv
    go_enter Tryz.func116, Tryz.ntmps116
    go_wp2_with fail
    refine hL.out.mono ?_
    rintro e w1 ⟨rfl, rfl⟩
    go_wp2
    go_ret
    exact ⟨rfl, rfl⟩
  | some ws =>
    rw [lenR_some hR] at hL
    have hlen := (h.u64 hR).2.1
    have hv : nodeE R x = if ws.length = 6 then 0 else 8 := by unfold nodeE; rw [hR]
    by_cases h6 : ws.length = 6
    · have hvH := Lib.hid (hv.trans (if_pos h6))
      have d : ((ws.length : Int) != 6) = false := by simp; omega
      clear hR h hv h6
      go_enter Tryz.func116, Tryz.ntmps116
      go_wp2_with fail
      refine hL.out.mono ?_
      rintro e w1 ⟨rfl, rfl⟩
      go_wp2
      go_ret
      exact ⟨by rw [hvH.out]; rfl, rfl⟩
    · have hvH := Lib.hid (hv.trans (if_neg h6))
      have d : ((ws.length : Int) != 6) = true := by simp; omega
      clear hR h hv h6
      go_enter Tryz.func116, Tryz.ntmps116
      go_wp2_with fail
      refine hL.out.mono ?_
      rintro e w1 ⟨rfl, rfl⟩
      go_wp2
      go_ret
      exact ⟨by rw [hvH.out]; rfl, rfl⟩
theorem rowIs_keep {w w' : World} {b : Nat} {t : TypeId} {n : Nat} {f : Nat → Value} (h : w.rowIs b t n f) (hk : w'.heap[b]? = w.heap[b]?) : w'.rowIs b t n f := by
  obtain ⟨c, h1, h2⟩ := h
  exact ⟨c, hk.trans h1, h2⟩
theorem six_row (w : World) (t : TypeId) : (w.alloc (Obj.cells #[Value.int IntKind.u64 0, Value.int IntKind.u64 0, Value.int IntKind.u64 0, Value.int IntKind.u64 0, Value.int IntKind.u64 0, Value.int IntKind.u64 0] t)).rowIs w.heap.size t 6 (fun _ => .int .u64 0) :=
  World.rowIs_alloc w _ t _ (fun i hi => by
    simp only [List.size_toArray, List.length_cons, List.length_nil] at hi
    match i, hi with
    | 0, _ => rfl
    | 1, _ => rfl
    | 2, _ => rfl
    | 3, _ => rfl
    | 4, _ => rfl
    | 5, _ => rfl)
set_option maxHeartbeats 2000000 in
set_option maxRecDepth 100000 in
theorem nget_at (h : Rd N w s R n) (x : Nat) (hx : x < 18446744073709551616) :
    Calls Tryz.prog 61 #[.pointer (some ⟨s, 0, none⟩), .int .u64 (x : Nat)] w fun e w' => e = .returned (nodeV R x) ∧ Below w.heap.size w w' := by
  have hA := Lib.hid (fun w' (hb : Below w.heap.size w w') => asked_at (h.below hb) x hx)
  cases hR : nodeR R x with
  | none =>
    obtain ⟨z, hz⟩ : ∃ z, z = nodeE R x := ⟨_, rfl⟩
    have hz0 : z ≠ 0 := fun e => by
      obtain ⟨nd, hnd⟩ := nodeE_zero.1 (hz.symm.trans e)
      rw [hR] at hnd; cases hnd
    have hz1 : z < 10 := by rw [hz]; unfold nodeE; split <;> (try split) <;> omega
    have d : ((z : Int) != 0) = true := by simp; omega
    have hv : Hid (nodeV R x = .tuple #[Nd.zero.v, .int .i64 (z : Nat)]) := Lib.hid (by unfold nodeV nodeG; rw [hR, ← hz]; rfl)
    rw [← hz] at hA
    clear hR h hz
    go_enter Tryz.func61, Tryz.ntmps61
    go_wp2_with fail
    refine (hA.out _ ((Below.refl _ w).alloc (Nat.le_refl _) _)).mono ?_
    rintro e w1 ⟨rfl, rfl⟩
    go_wp2
    refine bodyPost_ret (v := .tuple #[Nd.zero.v, .int .i64 (z : Nat)]) ?_ rfl ⟨by rw [hv.out], (Below.refl _ w).alloc (Nat.le_refl _) _⟩
    simp [results, Tryz.f61, go_sem, Nd.v, Nd.zero]
  | some nd =>
    have hv : Hid (nodeV R x = .tuple #[nd.v, .int .i64 0]) := Lib.hid (by unfold nodeV nodeG; rw [hR, nodeE_zero.2 ⟨_, hR⟩]; rfl)
    rw [nodeE_zero.2 ⟨_, hR⟩] at hA
    have hG := Lib.hid (fun w' (hb : Below w.heap.size w w') k (hk : k < nd.ws.length) => rget_at (h.below hb) (nodeR_some hR) hk)
    have hl6 : nd.ws.length = 6 := rfl
    have hok := Lib.hid (h.node hR)
    clear hR h
    go_enter Tryz.func61, Tryz.ntmps61
    go_wp2_with fail
    refine (hA.out _ ((Below.refl _ w).alloc (Nat.le_refl _) _)).mono ?_
    rintro e w1 ⟨rfl, rfl⟩
    go_wp2_with fail
    obtain ⟨W0, hW0⟩ : ∃ W0, W0 = (w.alloc (Obj.cells #[Value.int IntKind.u64 0, Value.int IntKind.u64 0, Value.int IntKind.u64 0, Value.int IntKind.u64 0, Value.int IntKind.u64 0, Value.int IntKind.u64 0] 118)).alloc (Obj.cells #[Value.int IntKind.u64 0, Value.int IntKind.u64 0, Value.int IntKind.u64 0, Value.int IntKind.u64 0, Value.int IntKind.u64 0, Value.int IntKind.u64 0] 197) := ⟨_, rfl⟩
    rw [← hW0]
    have hb0 : Hid (Below w.heap.size w W0) := Lib.hid (by rw [hW0]; exact ((Below.refl _ w).alloc (Nat.le_refl _) _).alloc (by simp) _)
    have hrb0 : W0.rowIs w.heap.size 118 6 (fun _ => .int .u64 0) := by
      rw [hW0]
      exact rowIs_keep (six_row w _) (Below.heap_alloc _ _ _ (by simp))
    have hr0 : W0.rowIs (w.heap.size + 1) 197 6 (fun _ => .int .u64 0) := by
      rw [hW0]
      have h1 := six_row (w.alloc (Obj.cells #[Value.int IntKind.u64 0, Value.int IntKind.u64 0, Value.int IntKind.u64 0, Value.int IntKind.u64 0, Value.int IntKind.u64 0, Value.int IntKind.u64 0] 118)) 197
      rw [show (w.alloc (Obj.cells #[Value.int IntKind.u64 0, Value.int IntKind.u64 0, Value.int IntKind.u64 0, Value.int IntKind.u64 0, Value.int IntKind.u64 0, Value.int IntKind.u64 0] 118)).heap.size = w.heap.size + 1 by simp] at h1
      exact h1
    clear hW0
    go_loopw [16] (fun iv wr => ∃ k : Nat, k ≤ 6 ∧ iv = .int .i64 k ∧ Hid (Below w.heap.size w wr) ∧ wr.rowIs (w.heap.size + 1) 197 6 (fun j => .int .u64 (if j < k then nd.ws[j]?.getD 0 else 0 : Nat)) ∧ wr.rowIs w.heap.size 118 6 (fun _ => .int .u64 0)) (fun iv _ => 6 - (intOf iv).toNat)
    case atStart => exact ⟨0, by omega, rfl, hb0, hr0, hrb0⟩
    case round =>
      obtain ⟨k, hk, rfl, hb, hr, hrb⟩ := hrel
      by_cases hlt : k < 6
      · have hGk := Lib.hid (hG.out wr hb.out k (by omega))
        have hck := hr.cell hlt
        have hfk := hr.frozen k
        have hkl : k < nd.ws.length := by omega
        have hgd : Hid (nd.ws[k]?.getD 0 = nd.ws[k]) := Lib.hid (by rw [List.getElem?_eq_getElem hkl]; rfl)
        generalize nd.ws[k] = u at *
        go_wp2_with fail
        refine hGk.out.mono ?_
        rintro e w2 ⟨rfl, rfl⟩
        go_wp2
        go_roundw
        case rel =>
          refine ⟨k + 1, by omega, by go_num, Lib.hid (hb.out.setCell (p := ⟨w.heap.size + 1, k, none⟩) (by simp) _), (hr.set k _).congr fun j hj => ?_, rowIs_keep hrb (Below.heap_setCell _ _ _ _ (by simp))⟩
          show (if j = k then Value.int .u64 _ else _) = _
          by_cases e : j = k
          · subst e
            rw [if_pos rfl, if_pos (by omega), hgd.out]
          · rw [if_neg e]
            by_cases h2 : j < k
            · rw [if_pos h2, if_pos (by omega)]
            · rw [if_neg h2, if_neg (by omega)]
        case measure => simp [intOf]; omega
      · obtain rfl : k = 6 := by omega
        have c0 := hr.cell (show 0 < 6 by omega)
        have c1 := hr.cell (show 1 < 6 by omega)
        have c2 := hr.cell (show 2 < 6 by omega)
        have c3 := hr.cell (show 3 < 6 by omega)
        have c4 := hr.cell (show 4 < 6 by omega)
        have c5 := hr.cell (show 5 < 6 by omega)
        rw [if_pos (by decide)] at c0 c1 c2 c3 c4 c5
        change _ = some (Value.int IntKind.u64 (nd.key : Nat)) at c0
        change _ = some (Value.int IntKind.u64 (nd.val : Nat)) at c1
        change _ = some (Value.int IntKind.u64 (nd.left : Nat)) at c2
        change _ = some (Value.int IntKind.u64 (nd.right : Nat)) at c3
        change _ = some (Value.int IntKind.u64 (nd.mark : Nat)) at c4
        change _ = some (Value.int IntKind.u64 (nd.size : Nat)) at c5
        have e0 := hrb.cell (show 0 < 6 by omega)
        have e1 := hrb.cell (show 1 < 6 by omega)
        have e2 := hrb.cell (show 2 < 6 by omega)
        have e3 := hrb.cell (show 3 < 6 by omega)
        have e4 := hrb.cell (show 4 < 6 by omega)
        have e5 := hrb.cell (show 5 < 6 by omega)
        have f0 := hrb.frozen 0
        have f1 := hrb.frozen 1
        have f2 := hrb.frozen 2
        have f3 := hrb.frozen 3
        have f4 := hrb.frozen 4
        have f5 := hrb.frozen 5
        have hrbH := Lib.hid hrb
        clear hr hrb
        go_wp2
        refine bodyPost_ret (v := .tuple #[nd.v, .int .i64 0]) ?_ rfl ⟨by rw [hv.out], ((((((hb.out.setCell (p := ⟨w.heap.size, 0, none⟩) (by simp) _).setCell (p := ⟨w.heap.size, 1, none⟩) (by simp) _).setCell (p := ⟨w.heap.size, 2, none⟩) (by simp) _).setCell (p := ⟨w.heap.size, 3, none⟩) (by simp) _).setCell (p := ⟨w.heap.size, 4, none⟩) (by simp) _).setCell (p := ⟨w.heap.size, 5, none⟩) (by simp) _)⟩
        simp [results, Tryz.f61, go_sem, Nd.v, e0, e1, e2, e3, e4, e5]
end
end Go.Proofs.YtijpmjaeanocpaaGreatDoor

set_option linter.unusedVariables false
set_option linter.unusedSimpArgs false
namespace Go.Proofs.YtijpmjaeanocpaaGreatDoor
open Go.RowKit Go.Shelf
theorem fields_index (nd : Nd) (k : Nat) (hk : k < 6) (W : World) : (Instr.index 197 nd.v (.int .i64 (k : Nat))).run Tryz.prog W = .ok (.int .u64 (nd.ws[k]?.getD 0 : Nat)) W := by
  unfold Nd.v Nd.ws
  match k, hk with
  | 0, _ => simp [Instr.index, run_underlying Tryz.underlying197, asIntOf, go_sem]
  | 1, _ => simp [Instr.index, run_underlying Tryz.underlying197, asIntOf, go_sem]
  | 2, _ => simp [Instr.index, run_underlying Tryz.underlying197, asIntOf, go_sem]
  | 3, _ => simp [Instr.index, run_underlying Tryz.underlying197, asIntOf, go_sem]
  | 4, _ => simp [Instr.index, run_underlying Tryz.underlying197, asIntOf, go_sem]
  | 5, _ => simp [Instr.index, run_underlying Tryz.underlying197, asIntOf, go_sem]
  | k + 6, h => omega
set_option maxHeartbeats 2000000 in
set_option maxRecDepth 100000 in
theorem fields_at (nd : Nd) (w : World) : Calls Tryz.prog 176 #[nd.v] w fun e w' => e = .returned nd.v ∧ Below w.heap.size w w' := by
  unfold Nd.v
  go_enter Tryz.func176, Tryz.ntmps176
  go_wp2
  refine bodyPost_ret (v := nd.v) ?_ rfl ⟨rfl, ((Below.refl _ w).alloc (Nat.le_refl _) _).alloc (by simp) _⟩
  simp [results, Tryz.f176, go_sem, Nd.v]
theorem updR_id {R : Nat → Option (List Nat)} {x : Nat} {o : Option (List Nat)} (h : R x = o) : updR R x o = R := by
  funext y
  unfold updR
  by_cases e : y = x
  · rw [if_pos e, e, h]
  · rw [if_neg e]
def mix (a b : List Nat) (k : Nat) : List Nat := a.take k ++ b.drop k
theorem mix_zero (a b : List Nat) : mix a b 0 = b := by simp [mix]
theorem mix_all {a b : List Nat} (h : a.length = b.length) : mix a b a.length = a := by
  unfold mix
  rw [List.take_length, List.drop_eq_nil_of_le (by omega), List.append_nil]
theorem mix_at {a b : List Nat} (h : a.length = b.length) (k i : Nat) (hk : k ≤ a.length) : (mix a b k)[i]? = if i < k then a[i]? else b[i]? := by
  unfold mix
  rw [List.getElem?_append, List.length_take, Nat.min_eq_left hk]
  by_cases hi : i < k
  · rw [if_pos hi, if_pos hi, List.getElem?_take, if_pos hi]
  · rw [if_neg hi, if_neg hi, List.getElem?_drop]
    congr 1; omega
theorem mix_len {a b : List Nat} (h : a.length = b.length) (k : Nat) (hk : k ≤ a.length) : (mix a b k).length = a.length := by
  simp [mix]; omega
theorem mix_set {a b : List Nat} (h : a.length = b.length) (k : Nat) (hk : k < a.length) : (mix a b k).set k (a[k]?.getD 0) = mix a b (k + 1) := by
  refine List.ext_getElem? fun i => ?_
  rw [List.getElem?_set, mix_at h k i (by omega), mix_at h (k + 1) i (by omega), mix_len h k (by omega)]
  by_cases e : k = i
  · subst e
    rw [if_pos rfl, if_pos hk, if_pos (by omega), List.getElem?_eq_getElem hk]; rfl
  · rw [if_neg e]
    by_cases hi : i < k
    · rw [if_pos hi, if_pos (by omega)]
    · rw [if_neg hi, if_neg (show ¬ i < k + 1 by omega)]
theorem Nd.Ok.ws {nd : Nd} (h : nd.Ok) (k : Nat) : nd.ws[k]?.getD 0 < 18446744073709551616 := by
  match k with
  | 0 => exact h.key
  | 1 => exact h.val
  | 2 => exact h.left
  | 3 => exact h.right
  | 4 => exact h.mark
  | 5 => exact h.size
  | k + 6 => simp [Nd.ws]
section
variable {w w' : World} {s : Nat} {F : Nat → Prop} {R : Nat → Option (List Nat)} {H : List Nat} {P q most last G : Nat}
set_option maxHeartbeats 2000000 in
set_option maxRecDepth 100000 in
theorem nput_at (h : StoreIs w s F R H P q most last G) {x : Nat} {ws : List Nat} (hR : R x = some ws) (h6 : ws.length = 6) (nd : Nd) (hok : nd.Ok) :
    Calls Tryz.prog 122 #[.pointer (some ⟨s, 0, none⟩), .int .u64 (x : Nat), nd.v] w fun e w' => e = .returned (.int .i64 0) ∧ StoreIs w' s F (updR R x (some nd.ws)) H P q most last G ∧ Turn w F w' F := by
  obtain ⟨n, hrd, _⟩ := h.rd
  have hx := (hrd.u64 hR).1
  have hA := Lib.hid (fun w' (hb : Below w.heap.size w w') => asked_at (hrd.below hb) x hx)
  have hz : nodeE R x = 0 := nodeE_zero.2 ⟨_, by unfold nodeR; rw [hR]; exact if_pos h6⟩
  rw [hz] at hA
  have hFl := Lib.hid (fun w' => fields_at nd w')
  have hl : nd.ws.length = ws.length := by rw [h6]; rfl
  have hlH := Lib.hid hl
  have hH := Lib.hid h
  have hokH := Lib.hid hok
  have hix := Lib.hid (fields_index nd)
  have hRH := Lib.hid hR
  clear h hR hrd hz hok hl h6
  unfold Nd.v
  go_enter Tryz.func122, Tryz.ntmps122
  go_wp2_with fail
  have hb0 : Below w.heap.size w (w.alloc (Obj.cells #[Value.int IntKind.u64 (nd.key : Nat), Value.int IntKind.u64 (nd.val : Nat), Value.int IntKind.u64 (nd.left : Nat), Value.int IntKind.u64 (nd.right : Nat), Value.int IntKind.u64 (nd.mark : Nat), Value.int IntKind.u64 (nd.size : Nat)] 118)) := (Below.refl _ w).alloc (Nat.le_refl _) _
  have hb0H := Lib.hid hb0
  refine (hA.out _ hb0).mono ?_
  rintro e w1 ⟨rfl, rfl⟩
  go_wp2_with fail
  refine (hFl.out _).mono ?_
  rintro e w2 ⟨rfl, hb2⟩
  have hb2H := Lib.hid (hb0.trans (hb2.mono hb0.size))
  clear hb2 hb0
  have hS0 : Hid (StoreIs w2 s F (updR R x (some (mix nd.ws ws 0))) H P q most last G) := Lib.hid (by
    rw [mix_zero, updR_id hRH.out]
    exact hH.out.below hb2H.out)
  have hT0 : Hid (Turn w F w2 F) := Lib.hid (Turn.below hb2H.out)
  clear hFl hA hH
  go_wp2_with fail
  go_loopw [18] (fun iv wr => ∃ k : Nat, k ≤ 6 ∧ iv = .int .i64 k ∧ Hid (StoreIs wr s F (updR R x (some (mix nd.ws ws k))) H P q most last G) ∧ Hid (Turn w F wr F)) (fun iv _ => 6 - (intOf iv).toNat)
  case atStart => exact ⟨0, by omega, rfl, hS0, hT0⟩
  case round =>
    obtain ⟨k, hk, rfl, hSr, hTr⟩ := hrel
    by_cases hlt : k < 6
    · have hi := fun W => hix.out k hlt W
      have hPt := sput_at hSr.out (x := x) (i := k) (u := nd.ws[k]?.getD 0) (ws := mix nd.ws ws k) (updR_same _ _ _) (by rw [mix_len hlH.out k (by show k ≤ 6; omega)]; exact hlt) (hokH.out.ws k)
      rw [updR_twice, mix_set hlH.out k hlt] at hPt
      have hPH := Lib.hid hPt
      clear hPt
      generalize nd.ws[k]?.getD 0 = u at *
      go_wp2_with fail
      refine hPH.out.mono ?_
      rintro e w3 ⟨rfl, hS3, hT3⟩
      have hS3H := Lib.hid hS3
      have hT3H := Lib.hid (hTr.out.trans hT3)
      clear hS3 hT3
      go_wp2
      go_roundw
      case rel => exact ⟨k + 1, by omega, by go_num, hS3H, hT3H⟩
      case measure => simp [intOf]; omega
    · obtain rfl : k = 6 := by omega
      go_wp2
      go_ret
      refine ⟨rfl, ?_, hTr.out⟩
      have := hSr.out
      rw [show mix nd.ws ws 6 = nd.ws from mix_all hlH.out] at this
      exact this
set_option maxHeartbeats 2000000 in
set_option maxRecDepth 100000 in
theorem nmake_at (h : StoreIs w s F R H P q most last G) (nd : Nd) (hok : nd.Ok) :
    Calls Tryz.prog 66 #[.pointer (some ⟨s, 0, none⟩), nd.v] w (MadeW w s F R H P q most last G nd.ws) := by
  have hb0 : Below w.heap.size w (w.alloc (Obj.cells #[Value.int IntKind.u64 (nd.key : Nat), Value.int IntKind.u64 (nd.val : Nat), Value.int IntKind.u64 (nd.left : Nat), Value.int IntKind.u64 (nd.right : Nat), Value.int IntKind.u64 (nd.mark : Nat), Value.int IntKind.u64 (nd.size : Nat)] 118)) := (Below.refl _ w).alloc (Nat.le_refl _) _
  have hM := Lib.hid (smake_at (h.below hb0) 6 (by omega))
  have hH := Lib.hid h
  have hokH := Lib.hid hok
  have hb0H := Lib.hid hb0
  have hFr : Hid (¬ F w.heap.size) := Lib.hid (fun hf => by have := h.lt hf; omega)
  clear h hok hb0
  unfold Nd.v
  go_enter Tryz.func66, Tryz.ntmps66
  go_wp2_with fail
  refine hM.out.mono ?_
  rintro e w2 (⟨x, F', hx0, hxn, hx64, rfl, hS, hT⟩ | ⟨er, F', rfl, her, hS, hT⟩)
  · have hP := Lib.hid (nput_at hS (x := x) (updR_same _ _ _) (by simp) nd hokH.out)
    have hT2 := Lib.hid ((Turn.below (F := F) hb0H.out).trans hT)
    have hc : ∀ (k : Nat) (v : Value), (w.alloc (Obj.cells #[Value.int IntKind.u64 (nd.key : Nat), Value.int IntKind.u64 (nd.val : Nat), Value.int IntKind.u64 (nd.left : Nat), Value.int IntKind.u64 (nd.right : Nat), Value.int IntKind.u64 (nd.mark : Nat), Value.int IntKind.u64 (nd.size : Nat)] 118)).cell? ⟨w.heap.size, k, none⟩ = some v → w2.cell? ⟨w.heap.size, k, none⟩ = some v := fun k v hv => hT.cell hv hFr.out
    have c0 := hc 0 (.int .u64 (nd.key : Nat)) (by go_simp)
    have c1 := hc 1 (.int .u64 (nd.val : Nat)) (by go_simp)
    have c2 := hc 2 (.int .u64 (nd.left : Nat)) (by go_simp)
    have c3 := hc 3 (.int .u64 (nd.right : Nat)) (by go_simp)
    have c4 := hc 4 (.int .u64 (nd.mark : Nat)) (by go_simp)
    have c5 := hc 5 (.int .u64 (nd.size : Nat)) (by go_simp)
    have hx0H := Lib.hid hx0
    clear hS hT hM hH hc hx0
    go_wp2_with fail
    refine hP.out.mono ?_
    rintro e w3 ⟨rfl, hS3, hT3⟩
    rw [updR_twice] at hS3
    have hS3H := Lib.hid hS3
    have hT3H := Lib.hid (hT2.out.trans hT3)
    clear hS3 hT3 c0 c1 c2 c3 c4 c5
    go_wp2
    go_ret2
    exact .inl ⟨x, F', hx0H.out, hxn, hx64, rfl, hS3H.out, hT3H.out⟩
  · have hT2 := Lib.hid ((Turn.below (F := F) hb0H.out).trans hT)
    have hSH := Lib.hid hS
    have herH := Lib.hid her
    have d2 : ((er : Int) != 0) = true := by simp; omega
    clear hS hT hM hH her
    go_wp2
    go_ret2
    exact .inr ⟨er, F', rfl, herH.out, hSH.out, hT2.out⟩
set_option maxRecDepth 100000 in
theorem ndrop_at (h : StoreIs w s F R H P q most last G) {x : Nat} {ws : List Nat} (hR : R x = some ws) (h6 : ws.length = 6) :
    Calls Tryz.prog 71 #[.pointer (some ⟨s, 0, none⟩), .int .u64 (x : Nat)] w fun e w' => ∃ F', e = .returned (.int .i64 0) ∧ StoreIs w' s F' (updR R x none) (H.erase x) P q most last G ∧ Turn w F w' F' := by
  obtain ⟨n, hrd, _⟩ := h.rd
  have hx := (hrd.u64 hR).1
  have hz : nodeE R x = 0 := nodeE_zero.2 ⟨_, by unfold nodeR; rw [hR]; exact if_pos h6⟩
  have hA := asked_at hrd x hx
  rw [hz] at hA
  have hAH := Lib.hid hA
  have hD := Lib.hid (sdrop_at h hR)
  clear h hR hrd hz hA
  go_enter Tryz.func71, Tryz.ntmps71
  go_wp2_with fail
  refine hAH.out.mono ?_
  rintro e w1 ⟨rfl, rfl⟩
  go_wp2_with fail
  refine hD.out.mono ?_
  rintro e w1 ⟨F', rfl, hS, hT⟩
  have hSH := Lib.hid hS
  have hTH := Lib.hid hT
  clear hS hT
  go_wp2
  go_ret
  exact ⟨F', rfl, hSH.out, hTH.out⟩
set_option maxRecDepth 100000 in
theorem bdrop_at (h : StoreIs w s F R H P q most last G) (hsh : Short R) {x : Nat} {ws : List Nat} (hR : R x = some ws) (ht : Tx.isText ws) :
    Calls Tryz.prog 70 #[.pointer (some ⟨s, 0, none⟩), .int .u64 (x : Nat)] w fun e w' => ∃ F', e = .returned (.int .i64 0) ∧ StoreIs w' s F' (updR R x none) (H.erase x) P q most last G ∧ Turn w F w' F' := by
  obtain ⟨n, hrd, _⟩ := h.rd
  have hx := (hrd.u64 hR).1
  have hG := bget_at hrd hsh x hx
  rw [blobV_some hR, Tx.ofR_yes ht] at hG
  have hGH := Lib.hid hG
  have hD := Lib.hid (fun w' (hb : Below w.heap.size w w') => sdrop_at (h.below hb) hR)
  clear h hR hrd hG
  go_enter Tryz.func70, Tryz.ntmps70
  go_wp2_with fail
  refine hGH.out.mono ?_
  rintro e w1 ⟨rfl, hb1⟩
  have hD1 := Lib.hid (hD.out w1 hb1)
  have hb1H := Lib.hid hb1
  clear hb1
  go_wp2_with fail
  refine hD1.out.mono ?_
  rintro e w2 ⟨F', rfl, hS, hT⟩
  have hSH := Lib.hid hS
  have hTH := Lib.hid ((Turn.below hb1H.out).trans hT)
  clear hS hT
  go_wp2
  go_ret
  exact ⟨F', rfl, hSH.out, hTH.out⟩
end
end Go.Proofs.YtijpmjaeanocpaaGreatDoor

set_option linter.unusedVariables false
set_option linter.unusedSimpArgs false
namespace Go.Proofs.YtijpmjaeanocpaaGreatDoor
open Go.RowKit Go.Shelf
section
variable {w w' : World} {s N : Nat} {R : Nat → Option (List Nat)} {n : Nat}
theorem nget_lit (h : Rd N w s R n) (x : Nat) (hx : x < 18446744073709551616) (nd : Nd) (hnd : nodeG R x = nd) (z : Nat) (hz : nodeE R x = z) :
    Calls Tryz.prog 61 #[.pointer (some ⟨s, 0, none⟩), .int .u64 (x : Nat)] w fun e w' => e = .returned (.tuple #[.agg #[.int .u64 (nd.key : Nat), .int .u64 (nd.val : Nat), .int .u64 (nd.left : Nat), .int .u64 (nd.right : Nat), .int .u64 (nd.mark : Nat), .int .u64 (nd.size : Nat)], .int .i64 (z : Nat)]) ∧ Below w.heap.size w w' :=
  (nget_at h x hx).mono fun e w' ⟨he, hb⟩ => ⟨by rw [he]; unfold nodeV; rw [hnd, hz]; rfl, hb⟩
theorem nodeE_lt (R : Nat → Option (List Nat)) (x : Nat) : nodeE R x < 10 := by unfold nodeE; split <;> (try split) <;> omega
theorem blobE_lt (R : Nat → Option (List Nat)) (x : Nat) : blobE R x < 10 := by unfold blobE; split <;> (try split) <;> omega
def tsizeR (R : Nat → Option (List Nat)) (x : Nat) : Int := wrap64 (nodeG R x).size
theorem nodeG_err {R : Nat → Option (List Nat)} {x : Nat} (h : nodeE R x ≠ 0) : nodeG R x = Nd.zero := by
  unfold nodeG
  cases hR : nodeR R x with
  | none => rfl
  | some nd => exact absurd (nodeE_zero.2 ⟨nd, hR⟩) h
set_option maxRecDepth 100000 in
theorem limit_at (h : Rd N w s R n) : Calls Tryz.prog 220 #[.pointer (some ⟨s, 0, none⟩)] w fun e w' => e = .returned (.int .i64 (n / 8 + 1 : Nat)) ∧ Below w.heap.size w w' := by
  have hW := Lib.hid (rwords_at h)
  have hn := h.le
  clear h
  go_enter Tryz.func220, Tryz.ntmps220
  go_wp2_with fail
  refine hW.out.mono ?_
  rintro e w1 ⟨rfl, hb⟩
  have hbH := Lib.hid hb
  clear hb
  go_wp2
  go_ret
  exact ⟨by congr 2, hbH.out⟩
set_option maxRecDepth 100000 in
theorem size_at (h : Rd N w s R n) (x : Nat) (hx : x < 18446744073709551616) : Calls Tryz.prog 239 #[.pointer (some ⟨s, 0, none⟩), .int .u64 (x : Nat)] w fun e w' => e = .returned (.int .i64 (tsizeR R x)) ∧ Below w.heap.size w w' := by
  obtain ⟨nd, hnd⟩ : ∃ nd, nodeG R x = nd := ⟨_, rfl⟩
  obtain ⟨z, hz⟩ : ∃ z, nodeE R x = z := ⟨_, rfl⟩
  have hG := Lib.hid (nget_lit h x hx nd hnd z hz)
  have hz1 : z < 10 := hz ▸ nodeE_lt R x
  have hok := h.nodeG x
  rw [hnd] at hok
  have hsz := hok.size
  have hv : Hid (tsizeR R x = wrap64 nd.size) := Lib.hid (by unfold tsizeR; rw [hnd])
  by_cases hz0 : z = 0
  · subst hz0
    clear h hnd hz hok
    go_enter Tryz.func239, Tryz.ntmps239
    go_wp2_with fail
    refine hG.out.mono ?_
    rintro e w1 ⟨rfl, hb⟩
    have hbH := Lib.hid hb
    have hz1 := hb.size
    clear hb
    go_wp2
    go_ret
    exact ⟨by rw [hv.out]; rfl, hbH.out.alloc hz1 _⟩
  · have d : ((z : Int) != 0) = true := by simp; omega
    have hnz : nd = Nd.zero := by rw [← hnd]; exact nodeG_err (by rw [hz]; exact hz0)
    subst hnz
    have hv2 : Hid (tsizeR R x = 0) := Lib.hid (by rw [hv.out]; show wrap64 ((0 : Nat) : Int) = 0; exact IntWalk.wrap64_in 0 (by omega))
    clear h hnd hz hok
    go_enter Tryz.func239, Tryz.ntmps239
    go_wp2_with fail
    refine hG.out.mono ?_
    rintro e w1 ⟨rfl, hb⟩
    have hbH := Lib.hid hb
    have hz1 := hb.size
    clear hb
    go_wp2
    go_ret
    exact ⟨by rw [hv2.out]; rfl, hbH.out.alloc hz1 _⟩
def keyR (R : Nat → Option (List Nat)) (nd : Nd) : ByteArray := (blobR R nd.key).getD ⟨#[]⟩
end
end Go.Proofs.YtijpmjaeanocpaaGreatDoor

set_option linter.unusedVariables false
set_option linter.unusedSimpArgs false
namespace Go.Proofs.YtijpmjaeanocpaaGreatDoor
open Go.RowKit Go.Shelf
def pairE (R : Nat → Option (List Nat)) (x : Nat) : Nat :=
  if nodeE R x ≠ 0 then nodeE R x else if blobE R (nodeG R x).key ≠ 0 then blobE R (nodeG R x).key else blobE R (nodeG R x).val
def pairP (R : Nat → Option (List Nat)) (x : Nat) : ByteArray × ByteArray :=
  if pairE R x = 0 then ((blobR R (nodeG R x).key).getD ⟨#[]⟩, (blobR R (nodeG R x).val).getD ⟨#[]⟩) else (⟨#[]⟩, ⟨#[]⟩)
def prV (p : ByteArray × ByteArray) : Value := .agg #[.string p.1, .string p.2]
theorem alloc_cell {W : World} {p : Addr} {v : Value} (o : Obj) (h : W.cell? p = some v) : (W.alloc o).cell? p = some v := (((Below.refl W.heap.size W).alloc (Nat.le_refl _) o).cell (cell_lt h)).trans h
theorem two_set {W : World} {b : Nat} {a c : Value} (h0 : W.cell? ⟨b, 0, none⟩ = some a) (h1 : W.cell? ⟨b, 1, none⟩ = some c) (u v : Value) :
    ((W.setCell ⟨b, 0, none⟩ u).setCell ⟨b, 1, none⟩ v).cell? ⟨b, 0, none⟩ = some u ∧ ((W.setCell ⟨b, 0, none⟩ u).setCell ⟨b, 1, none⟩ v).cell? ⟨b, 1, none⟩ = some v := by
  have e0 : (W.setCell ⟨b, 0, none⟩ u).cell? ⟨b, 0, none⟩ = some u := World.cell?_setCell_same' _ _ _ (by rw [h0]; rfl)
  have e1 : (W.setCell ⟨b, 0, none⟩ u).cell? ⟨b, 1, none⟩ = some c := by go_simp
  exact ⟨(by go_simp : ((W.setCell ⟨b, 0, none⟩ u).setCell ⟨b, 1, none⟩ v).cell? ⟨b, 0, none⟩ = (W.setCell ⟨b, 0, none⟩ u).cell? ⟨b, 0, none⟩).trans e0, World.cell?_setCell_same' _ _ _ (by rw [e1]; rfl)⟩
section
variable {w w' : World} {s N : Nat} {R : Nat → Option (List Nat)} {n : Nat}
set_option maxHeartbeats 2000000 in
set_option maxRecDepth 100000 in
theorem pair_at (h : Rd N w s R n) (hsh : Short R) (x : Nat) (hx : x < 18446744073709551616) :
    Calls Tryz.prog 68 #[.pointer (some ⟨s, 0, none⟩), .int .u64 (x : Nat)] w fun e w' => e = .returned (.tuple #[prV (pairP R x), .int .i64 (pairE R x : Nat)]) ∧ Below w.heap.size w w' := by
  obtain ⟨nd, hnd⟩ : ∃ nd, nodeG R x = nd := ⟨_, rfl⟩
  obtain ⟨z, hz⟩ : ∃ z, nodeE R x = z := ⟨_, rfl⟩
  have hb0 : Below w.heap.size w (w.alloc (Obj.cells #[Value.string ⟨#[]⟩, Value.string ⟨#[]⟩] 33)) := (Below.refl _ w).alloc (Nat.le_refl _) _
  have hG := Lib.hid (nget_lit (h.below hb0) x hx nd hnd z hz)
  have hz1 : z < 10 := hz ▸ nodeE_lt R x
  have hok := h.nodeG x
  rw [hnd] at hok
  have hB := Lib.hid (fun w' (hb : Below w.heap.size w w') (y : Nat) (hy : y < 18446744073709551616) => bget_at (h.below hb) hsh y hy)
  unfold blobV at hB
  have hpe : pairE R x = if z ≠ 0 then z else if blobE R nd.key ≠ 0 then blobE R nd.key else blobE R nd.val := by unfold pairE; rw [hnd, hz]
  have hpp : pairP R x = if pairE R x = 0 then ((blobR R nd.key).getD ⟨#[]⟩, (blobR R nd.val).getD ⟨#[]⟩) else (⟨#[]⟩, ⟨#[]⟩) := by unfold pairP; rw [hnd]
  have hb0H := Lib.hid hb0
  have hokk := hok.key
  have hokv := hok.val
  have hsz : (w.alloc (Obj.cells #[Value.string ⟨#[]⟩, Value.string ⟨#[]⟩] 33)).heap.size = w.heap.size + 1 := by simp
  have c0 : (w.alloc (Obj.cells #[Value.string ⟨#[]⟩, Value.string ⟨#[]⟩] 33)).cell? ⟨w.heap.size, 0, none⟩ = some (.string ⟨#[]⟩) := by go_simp
  have c1 : (w.alloc (Obj.cells #[Value.string ⟨#[]⟩, Value.string ⟨#[]⟩] 33)).cell? ⟨w.heap.size, 1, none⟩ = some (.string ⟨#[]⟩) := by go_simp
  have g0 : (w.alloc (Obj.cells #[Value.string ⟨#[]⟩, Value.string ⟨#[]⟩] 33)).frozen? ⟨w.heap.size, 0, none⟩ = false := by go_simp
  have g1 : (w.alloc (Obj.cells #[Value.string ⟨#[]⟩, Value.string ⟨#[]⟩] 33)).frozen? ⟨w.heap.size, 1, none⟩ = false := by go_simp
  by_cases hz0 : z = 0
  · subst hz0
    rw [if_neg (by simp)] at hpe
    obtain ⟨z1, hz1⟩ : ∃ z1, z1 = blobE R nd.key := ⟨_, rfl⟩
    obtain ⟨z2, hz2⟩ : ∃ z2, z2 = blobE R nd.val := ⟨_, rfl⟩
    obtain ⟨t1, ht1⟩ : ∃ t1, t1 = (blobR R nd.key).getD ⟨#[]⟩ := ⟨_, rfl⟩
    obtain ⟨t2, ht2⟩ : ∃ t2, t2 = (blobR R nd.val).getD ⟨#[]⟩ := ⟨_, rfl⟩
    have hB1 := Lib.hid (fun w' (hb : Below w.heap.size w w') => hB.out w' hb nd.key hokk)
    have hB2 := Lib.hid (fun w' (hb : Below w.heap.size w w') => hB.out w' hb nd.val hokv)
    rw [← hz1, ← hz2] at hpe
    rw [← ht1, ← ht2] at hpp
    rw [← hz1, ← ht1] at hB1
    rw [← hz2, ← ht2] at hB2
    have hz1' : z1 < 10 := hz1 ▸ blobE_lt R nd.key
    have hz2' : z2 < 10 := hz2 ▸ blobE_lt R nd.val
    have hpeH := Lib.hid hpe
    have hppH := Lib.hid hpp
    clear h hnd hz hok hpe hpp hB hb0 hz1 hz2 ht1 ht2
    go_enter Tryz.func68, Tryz.ntmps68
    go_wp2_with fail
    generalize (w.alloc (Obj.cells #[Value.string ⟨#[]⟩, Value.string ⟨#[]⟩] 33)) = W0 at *
    refine hG.out.mono ?_
    rintro e w1 ⟨rfl, hb⟩
    have hbw := hb0H.out.trans (hb.mono hb0H.out.size)
    have hzz := hb.size
    have d0 := (hb.cell (p := ⟨w.heap.size, 0, none⟩) (cell_lt c0)).trans c0
    have d1 := (hb.cell (p := ⟨w.heap.size, 1, none⟩) (cell_lt c1)).trans c1
    have e0 := (hb.frozen (p := ⟨w.heap.size, 0, none⟩) (cell_lt c0)).trans g0
    have e1 := (hb.frozen (p := ⟨w.heap.size, 1, none⟩) (cell_lt c1)).trans g1
    have hzw : w.heap.size < w1.heap.size := by omega
    have hz1w : w.heap.size ≤ w1.heap.size := by omega
    have hbw1 := Lib.hid (hbw.alloc hz1w (Obj.cells #[Value.int IntKind.u64 (nd.key : Nat), Value.int IntKind.u64 (nd.val : Nat), Value.int IntKind.u64 (nd.left : Nat), Value.int IntKind.u64 (nd.right : Nat), Value.int IntKind.u64 (nd.mark : Nat), Value.int IntKind.u64 (nd.size : Nat)] 118))
    have m0 := fun X : Bel (w1.alloc (Obj.cells #[Value.int IntKind.u64 (nd.key : Nat), Value.int IntKind.u64 (nd.val : Nat), Value.int IntKind.u64 (nd.left : Nat), Value.int IntKind.u64 (nd.right : Nat), Value.int IntKind.u64 (nd.mark : Nat), Value.int IntKind.u64 (nd.size : Nat)] 118)) => 0
    have n1 : (w1.alloc (Obj.cells #[Value.int IntKind.u64 (nd.key : Nat), Value.int IntKind.u64 (nd.val : Nat), Value.int IntKind.u64 (nd.left : Nat), Value.int IntKind.u64 (nd.right : Nat), Value.int IntKind.u64 (nd.mark : Nat), Value.int IntKind.u64 (nd.size : Nat)] 118)).cell? ⟨w1.heap.size, 1, none⟩ = some (.int .u64 (nd.val : Nat)) := by go_simp
    have p0 : (w1.alloc (Obj.cells #[Value.int IntKind.u64 (nd.key : Nat), Value.int IntKind.u64 (nd.val : Nat), Value.int IntKind.u64 (nd.left : Nat), Value.int IntKind.u64 (nd.right : Nat), Value.int IntKind.u64 (nd.mark : Nat), Value.int IntKind.u64 (nd.size : Nat)] 118)).cell? ⟨w.heap.size, 0, none⟩ = some (.string ⟨#[]⟩) := by go_simp
    have p1 : (w1.alloc (Obj.cells #[Value.int IntKind.u64 (nd.key : Nat), Value.int IntKind.u64 (nd.val : Nat), Value.int IntKind.u64 (nd.left : Nat), Value.int IntKind.u64 (nd.right : Nat), Value.int IntKind.u64 (nd.mark : Nat), Value.int IntKind.u64 (nd.size : Nat)] 118)).cell? ⟨w.heap.size, 1, none⟩ = some (.string ⟨#[]⟩) := by go_simp
    have q0 : (w1.alloc (Obj.cells #[Value.int IntKind.u64 (nd.key : Nat), Value.int IntKind.u64 (nd.val : Nat), Value.int IntKind.u64 (nd.left : Nat), Value.int IntKind.u64 (nd.right : Nat), Value.int IntKind.u64 (nd.mark : Nat), Value.int IntKind.u64 (nd.size : Nat)] 118)).frozen? ⟨w.heap.size, 0, none⟩ = false := by go_simp
    have q1 : (w1.alloc (Obj.cells #[Value.int IntKind.u64 (nd.key : Nat), Value.int IntKind.u64 (nd.val : Nat), Value.int IntKind.u64 (nd.left : Nat), Value.int IntKind.u64 (nd.right : Nat), Value.int IntKind.u64 (nd.mark : Nat), Value.int IntKind.u64 (nd.size : Nat)] 118)).frozen? ⟨w.heap.size, 1, none⟩ = false := by go_simp
    clear hb c0 c1 g0 g1 hG hbw d0 d1 e0 e1 m0
    have hBk := Lib.hid (hB1.out _ hbw1.out)
    go_wp2_with fail
    generalize (w1.alloc (Obj.cells #[Value.int IntKind.u64 (nd.key : Nat), Value.int IntKind.u64 (nd.val : Nat), Value.int IntKind.u64 (nd.left : Nat), Value.int IntKind.u64 (nd.right : Nat), Value.int IntKind.u64 (nd.mark : Nat), Value.int IntKind.u64 (nd.size : Nat)] 118)) = W1 at *
    refine hBk.out.mono ?_
    rintro e w2 ⟨rfl, hb⟩
    have hbw2 := Lib.hid (hbw1.out.trans (hb.mono hbw1.out.size))
    have a1 := (hb.cell (p := ⟨w1.heap.size, 1, none⟩) (cell_lt n1)).trans n1
    have b0 := (hb.cell (p := ⟨w.heap.size, 0, none⟩) (cell_lt p0)).trans p0
    have b1 := (hb.cell (p := ⟨w.heap.size, 1, none⟩) (cell_lt p1)).trans p1
    have c0 := (hb.frozen (p := ⟨w.heap.size, 0, none⟩) (cell_lt p0)).trans q0
    have c1 := (hb.frozen (p := ⟨w.heap.size, 1, none⟩) (cell_lt p1)).trans q1
    clear hb n1 p0 p1 q0 q1 hBk
    by_cases hk0 : z1 = 0
    · subst hk0
      have hBk2 := Lib.hid (hB2.out _ hbw2.out)
      rw [if_neg (by simp)] at hpeH
      go_wp2_with fail
      refine hBk2.out.mono ?_
      rintro e w3 ⟨rfl, hb⟩
      have hbw3 := Lib.hid (hbw2.out.trans (hb.mono hbw2.out.size))
      have s0 := (hb.cell (p := ⟨w.heap.size, 0, none⟩) (cell_lt b0)).trans b0
      have s1 := (hb.cell (p := ⟨w.heap.size, 1, none⟩) (cell_lt b1)).trans b1
      have u0 := (hb.frozen (p := ⟨w.heap.size, 0, none⟩) (cell_lt b0)).trans c0
      have u1 := (hb.frozen (p := ⟨w.heap.size, 1, none⟩) (cell_lt b1)).trans c1
      clear hb b0 b1 c0 c1 a1 hBk2
      by_cases hk1 : z2 = 0
      · subst hk1
        rw [hpeH.out, if_pos rfl] at hppH
        go_wp2
        have ht := two_set s0 s1 (Value.string t1) (Value.string t2)
        have hbf := ((hbw3.out.setCell (p := ⟨w.heap.size, 0, none⟩) (by simp) (Value.string t1)).setCell (p := ⟨w.heap.size, 1, none⟩) (by simp) (Value.string t2))
        generalize World.setCell _ _ _ = Wf at *
        refine bodyPost_ret (v := .tuple #[prV (t1, t2), .int .i64 0]) ?_ rfl ⟨by rw [hpeH.out, hppH.out]; rfl, hbf⟩
        simp [results, Tryz.f68, go_sem, prV, ht.1, ht.2]
      · have d : ((z2 : Int) != 0) = true := by simp; omega
        rw [hpeH.out, if_neg hk1] at hppH
        go_wp2
        have ht := two_set s0 s1 (Value.string ⟨#[]⟩) (Value.string ⟨#[]⟩)
        have hbf := ((hbw3.out.setCell (p := ⟨w.heap.size, 0, none⟩) (by simp) (Value.string ⟨#[]⟩)).setCell (p := ⟨w.heap.size, 1, none⟩) (by simp) (Value.string ⟨#[]⟩))
        generalize World.setCell _ _ _ = Wf at *
        refine bodyPost_ret (v := .tuple #[prV (⟨#[]⟩, ⟨#[]⟩), .int .i64 (z2 : Nat)]) ?_ rfl ⟨by rw [hpeH.out, hppH.out], hbf⟩
        simp [results, Tryz.f68, go_sem, prV, ht.1, ht.2]
    · have d : ((z1 : Int) != 0) = true := by simp; omega
      rw [if_pos hk0] at hpeH
      rw [hpeH.out, if_neg hk0] at hppH
      go_wp2
      have ht := two_set b0 b1 (Value.string ⟨#[]⟩) (Value.string ⟨#[]⟩)
      have hbf := ((hbw2.out.setCell (p := ⟨w.heap.size, 0, none⟩) (by simp) (Value.string ⟨#[]⟩)).setCell (p := ⟨w.heap.size, 1, none⟩) (by simp) (Value.string ⟨#[]⟩))
      generalize World.setCell _ _ _ = Wf at *
      refine bodyPost_ret (v := .tuple #[prV (⟨#[]⟩, ⟨#[]⟩), .int .i64 (z1 : Nat)]) ?_ rfl ⟨by rw [hpeH.out, hppH.out], hbf⟩
      simp [results, Tryz.f68, go_sem, prV, ht.1, ht.2]
  · have d : ((z : Int) != 0) = true := by simp; omega
    rw [if_pos hz0] at hpe
    rw [hpe, if_neg hz0] at hpp
    rw [hpe, hpp]
    clear h hnd hz hok hpe hpp hB hb0
    go_enter Tryz.func68, Tryz.ntmps68
    go_wp2_with fail
    generalize (w.alloc (Obj.cells #[Value.string ⟨#[]⟩, Value.string ⟨#[]⟩] 33)) = W0 at *
    refine hG.out.mono ?_
    rintro e w1 ⟨rfl, hb⟩
    have hbH := Lib.hid (hb0H.out.trans (hb.mono hb0H.out.size))
    have hz1 := hb.size
    have d0 := (hb.cell (p := ⟨w.heap.size, 0, none⟩) (cell_lt c0)).trans c0
    have d1 := (hb.cell (p := ⟨w.heap.size, 1, none⟩) (cell_lt c1)).trans c1
    have e0 := (hb.frozen (p := ⟨w.heap.size, 0, none⟩) (cell_lt c0)).trans g0
    have e1 := (hb.frozen (p := ⟨w.heap.size, 1, none⟩) (cell_lt c1)).trans g1
    have hzw : w.heap.size < w1.heap.size := by omega
    clear hb c0 c1 g0 g1 hG
    go_wp2
    have ht := two_set d0 d1 (Value.string ⟨#[]⟩) (Value.string ⟨#[]⟩)
    have r0 := alloc_cell (Obj.cells #[Value.int IntKind.u64 (nd.key : Nat), Value.int IntKind.u64 (nd.val : Nat), Value.int IntKind.u64 (nd.left : Nat), Value.int IntKind.u64 (nd.right : Nat), Value.int IntKind.u64 (nd.mark : Nat), Value.int IntKind.u64 (nd.size : Nat)] 118) ht.1
    have r1 := alloc_cell (Obj.cells #[Value.int IntKind.u64 (nd.key : Nat), Value.int IntKind.u64 (nd.val : Nat), Value.int IntKind.u64 (nd.left : Nat), Value.int IntKind.u64 (nd.right : Nat), Value.int IntKind.u64 (nd.mark : Nat), Value.int IntKind.u64 (nd.size : Nat)] 118) ht.2
    have hbf := ((hbH.out.setCell (p := ⟨w.heap.size, 0, none⟩) (by simp) (Value.string ⟨#[]⟩)).setCell (p := ⟨w.heap.size, 1, none⟩) (by simp) (Value.string ⟨#[]⟩)).alloc (by simp; omega) (Obj.cells #[Value.int IntKind.u64 (nd.key : Nat), Value.int IntKind.u64 (nd.val : Nat), Value.int IntKind.u64 (nd.left : Nat), Value.int IntKind.u64 (nd.right : Nat), Value.int IntKind.u64 (nd.mark : Nat), Value.int IntKind.u64 (nd.size : Nat)] 118)
    generalize World.alloc _ _ = Wf at *
    refine bodyPost_ret (v := .tuple #[prV (⟨#[]⟩, ⟨#[]⟩), .int .i64 (z : Nat)]) ?_ rfl ⟨rfl, hbf⟩
    simp [results, Tryz.f68, go_sem, prV, r0, r1]
end
end Go.Proofs.YtijpmjaeanocpaaGreatDoor

set_option linter.unusedVariables false
set_option linter.unusedSimpArgs false
namespace Go.Proofs.YtijpmjaeanocpaaGreatDoor
open Go.RowKit Go.Shelf
section
variable {w w' : World} {s N : Nat} {R : Nat → Option (List Nat)} {n : Nat}
end
end Go.Proofs.YtijpmjaeanocpaaGreatDoor

set_option linter.unusedVariables false
set_option linter.unusedSimpArgs false
namespace Go.Proofs.YtijpmjaeanocpaaGreatDoor
open Go.RowKit Go.Shelf
section
variable {w w' : World} {s N : Nat} {R : Nat → Option (List Nat)} {n : Nat}
end
end Go.Proofs.YtijpmjaeanocpaaGreatDoor

set_option linter.unusedVariables false
set_option linter.unusedSimpArgs false
namespace Go.Proofs.YtijpmjaeanocpaaGreatDoor
open Go.RowKit Go.Shelf
def sideR (R : Nat → Option (List Nat)) (x : Nat) : Option Nat := if x = 0 then some 0 else if nodeE R x ≠ 0 then none else some (nodeG R x).size
def Nd.side (nd : Nd) (k : Nat) : Nat := if k = 0 then nd.left else nd.right
def fitAcc (R : Nat → Option (List Nat)) (nd : Nd) : Nat → Option Nat
  | 0 => some 1
  | k + 1 => (fitAcc R nd k).bind fun s => (sideR R (nd.side k)).map fun a => (s + a) % 18446744073709551616
def fitsR (R : Nat → Option (List Nat)) (nd : Nd) : Bool := match fitAcc R nd 2 with | some s => nd.size == s | none => false
theorem side_index (nd : Nd) (k : Nat) (hk : k < 2) (W : World) : (Instr.index 339 (.agg #[.int .u64 (nd.left : Nat), .int .u64 (nd.right : Nat)]) (.int .i64 (k : Nat))).run Tryz.prog W = .ok (.int .u64 (nd.side k : Nat)) W := by
  unfold Nd.side
  match k, hk with
  | 0, _ => simp [Instr.index, run_underlying Tryz.underlying339, asIntOf, go_sem]
  | 1, _ => simp [Instr.index, run_underlying Tryz.underlying339, asIntOf, go_sem]
  | k + 2, h => omega
theorem wrap_u64_nat (a b : Nat) : IntKind.u64.wrap ((a : Int) + (b : Int)) = (((a + b) % 18446744073709551616 : Nat) : Int) := by
  unfold IntKind.wrap
  simp [IntKind.signed, IntKind.bits]
theorem beq_u64 (a b : Nat) : (a == b) = ((a : Int) == (b : Int)) := by
  rw [Bool.eq_iff_iff, beq_iff_eq, beq_iff_eq]; omega
theorem fit_none (R : Nat → Option (List Nat)) (nd : Nd) (k : Nat) (hk : k < 2) (h : sideR R (nd.side k) = none) : fitsR R nd = false := by
  unfold fitsR
  have h1 : fitAcc R nd 2 = none := by
    match k, hk with
    | 0, _ =>
      have : fitAcc R nd 1 = none := by rw [fitAcc, h]; cases fitAcc R nd 0 <;> rfl
      rw [fitAcc, this]; rfl
    | 1, _ => rw [fitAcc, h]; cases fitAcc R nd 1 <;> rfl
    | k + 2, h => omega
  rw [h1]
section
variable {w w' : World} {s N : Nat} {R : Nat → Option (List Nat)} {n : Nat}
set_option maxHeartbeats 2000000 in
set_option maxRecDepth 100000 in
theorem fits_at (h : Rd N w s R n) (nd : Nd) (hok : nd.Ok) :
    Calls Tryz.prog 235 #[.pointer (some ⟨s, 0, none⟩), nd.v] w fun e w' => e = .returned (.bool (fitsR R nd)) ∧ Below w.heap.size w w' := by
  have hH := Lib.hid (fun w' (hb : Below w.heap.size w w') => h.below hb)
  have hix := Lib.hid (side_index nd)
  have hsz := hok.size
  have hside : Hid (∀ k, nd.side k < 18446744073709551616) := Lib.hid (fun k => by unfold Nd.side; split; exact hok.left; exact hok.right)
  have hb0 : Hid (Below w.heap.size w (w.alloc (Obj.cells #[Value.int IntKind.u64 (nd.key : Nat), Value.int IntKind.u64 (nd.val : Nat), Value.int IntKind.u64 (nd.left : Nat), Value.int IntKind.u64 (nd.right : Nat), Value.int IntKind.u64 (nd.mark : Nat), Value.int IntKind.u64 (nd.size : Nat)] 118))) := Lib.hid ((Below.refl _ w).alloc (Nat.le_refl _) _)
  have n5 : (w.alloc (Obj.cells #[Value.int IntKind.u64 (nd.key : Nat), Value.int IntKind.u64 (nd.val : Nat), Value.int IntKind.u64 (nd.left : Nat), Value.int IntKind.u64 (nd.right : Nat), Value.int IntKind.u64 (nd.mark : Nat), Value.int IntKind.u64 (nd.size : Nat)] 118)).cell? ⟨w.heap.size, 5, none⟩ = some (.int .u64 (nd.size : Nat)) := by go_simp
  have hz0 : w.heap.size < (w.alloc (Obj.cells #[Value.int IntKind.u64 (nd.key : Nat), Value.int IntKind.u64 (nd.val : Nat), Value.int IntKind.u64 (nd.left : Nat), Value.int IntKind.u64 (nd.right : Nat), Value.int IntKind.u64 (nd.mark : Nat), Value.int IntKind.u64 (nd.size : Nat)] 118)).heap.size := by simp
  obtain ⟨B, hB⟩ : ∃ B, B = fitsR R nd := ⟨_, rfl⟩
  have hBH := Lib.hid hB
  rw [← hB]
  clear h hok hB
  unfold Nd.v
  go_enter Tryz.func235, Tryz.ntmps235
  go_wp2_with fail
  generalize w.alloc (Obj.cells #[Value.int IntKind.u64 (nd.key : Nat), Value.int IntKind.u64 (nd.val : Nat), Value.int IntKind.u64 (nd.left : Nat), Value.int IntKind.u64 (nd.right : Nat), Value.int IntKind.u64 (nd.mark : Nat), Value.int IntKind.u64 (nd.size : Nat)] 118) = W0 at *
  go_loopw [15, 5] (fun iv sv wr => ∃ (k a : Nat), iv = .int .i64 k ∧ sv = .int .u64 a ∧ k ≤ 2 ∧ a < 18446744073709551616 ∧ Hid (fitAcc R nd k = some a) ∧ wr.cell? ⟨w.heap.size, 5, none⟩ = some (.int .u64 (nd.size : Nat)) ∧ Hid (Below w.heap.size w wr)) (fun iv _ _ => 2 - (intOf iv).toNat)
  case atStart => exact ⟨0, 1, rfl, rfl, by omega, by omega, Lib.hid rfl, n5, hb0⟩
  case round =>
    obtain ⟨k, a, rfl, rfl, hk, ha, hacc, hc, hb⟩ := hrel
    by_cases hlt : k < 2
    · have hi := fun W => hix.out k hlt W
      have hy := hside.out k
      obtain ⟨y, hyy⟩ : ∃ y, y = nd.side k := ⟨_, rfl⟩
      rw [← hyy] at hy hi
      have hyyH := Lib.hid hyy
      clear hyy
      by_cases hy0 : y = 0
      · subst hy0
        have hacc1 : Hid (fitAcc R nd (k + 1) = some a) := Lib.hid (by
          rw [fitAcc, hacc.out, ← hyyH.out]
          show ((sideR R 0).map fun b => (a + b) % 18446744073709551616) = some a
          rw [sideR, if_pos rfl]
          show some ((a + 0) % 18446744073709551616) = some a
          rw [Nat.add_zero, Nat.mod_eq_of_lt ha])
        go_wp2
        go_roundw
        case rel => exact ⟨k + 1, a, by go_num, rfl, by omega, ha, hacc1, hc, hb⟩
        case measure => simp [intOf]; omega
      · have dy : ((y : Int) == 0) = false := by simp; omega
        obtain ⟨nx, hnx⟩ : ∃ nx, nodeG R y = nx := ⟨_, rfl⟩
        obtain ⟨z, hz⟩ : ∃ z, nodeE R y = z := ⟨_, rfl⟩
        have hz1 : z < 10 := hz ▸ nodeE_lt R y
        have hr := hH.out wr hb.out
        have hG := Lib.hid (nget_lit hr y hy nx hnx z hz)
        have hnxs := (hr.nodeG y).size
        rw [hnx] at hnxs
        have hsd : sideR R y = if z ≠ 0 then none else some nx.size := by unfold sideR; rw [if_neg hy0, hz, hnx]
        have hsdH := Lib.hid hsd
        clear hr hnx hz hsd
        by_cases hz0 : z = 0
        · subst hz0
          have hacc1 : Hid (fitAcc R nd (k + 1) = some ((a + nx.size) % 18446744073709551616)) := Lib.hid (by
            rw [fitAcc, hacc.out, ← hyyH.out]
            show ((sideR R y).map fun b => (a + b) % 18446744073709551616) = _
            rw [hsdH.out, if_neg (by simp)]; rfl)
          go_wp2_with fail
          refine hG.out.mono ?_
          rintro e w2 ⟨rfl, hb2⟩
          have hb2H := Lib.hid (hb.out.trans (hb2.mono hb.out.size))
          have hz2 := hb2H.out.size
          have hc2 := (hb2.cell (p := ⟨w.heap.size, 5, none⟩) (cell_lt hc)).trans hc
          have hlt2 : w.heap.size < w2.heap.size := Nat.lt_of_lt_of_le (cell_lt hc) hb2.size
          clear hb2 hG
          go_wp2
          go_roundw
          case rel => exact ⟨k + 1, (a + nx.size) % 18446744073709551616, by go_num, by rw [wrap_u64_nat], by omega, Nat.mod_lt _ (by decide), hacc1, alloc_cell _ hc2, Lib.hid (hb2H.out.alloc hz2 _)⟩
          case measure => simp [intOf]; omega
        · have d : ((z : Int) != 0) = true := by simp; omega
          have hfin : Hid (B = false) := Lib.hid (by rw [hBH.out]; exact fit_none R nd k hlt (by rw [← hyyH.out, hsdH.out, if_pos hz0]))
          go_wp2_with fail
          refine hG.out.mono ?_
          rintro e w2 ⟨rfl, hb2⟩
          have hb2H := Lib.hid (hb.out.trans (hb2.mono hb.out.size))
          have hz2 := hb2H.out.size
          clear hb2
          go_wp2
          go_ret
          exact ⟨by rw [hfin.out]; rfl, hb2H.out.alloc hz2 _⟩
    · obtain rfl : k = 2 := by omega
      have hfin : Hid (B = (nd.size == a)) := Lib.hid (by rw [hBH.out]; unfold fitsR; rw [hacc.out])
      go_wp2
      go_ret
      exact ⟨by rw [hfin.out, beq_u64]; rfl, hb.out⟩
end
end Go.Proofs.YtijpmjaeanocpaaGreatDoor

set_option linter.unusedVariables false
set_option linter.unusedSimpArgs false
namespace Go.Proofs.YtijpmjaeanocpaaGreatDoor
open Go.RowKit Go.Shelf
def dive (R : Nat → Option (List Nat)) : Nat → List Nat → Nat → Option (List Nat × Nat × Nat)
  | 0, st, root => some (st, 0, root)
  | f + 1, st, root => if root = 0 then some (st, f + 1, 0) else if nodeE R root ≠ 0 then none else dive R f (root :: st) (nodeG R root).left
def goO (R : Nat → Option (List Nat)) : Nat → Nat → List Nat → Nat → List Nat
  | 0, _, _, _ => []
  | g + 1, f, st, root =>
    if f = 0 then st
    else match dive R f st root with
      | some (h :: st', f', _) => h :: goO R g f' st' (nodeG R h).right
      | _ => []
def inR (R : Nat → Option (List Nat)) (n root : Nat) : List Nat := goO R (n / 8 + 1) (n / 8 + 1) [] root
theorem dive_sum (R : Nat → Option (List Nat)) : ∀ (f : Nat) (st : List Nat) (root : Nat) (st' : List Nat) (f' r' : Nat), dive R f st root = some (st', f', r') → f' + st'.length = f + st.length
  | 0, st, root, st', f', r', h => by
    unfold dive at h
    simp only [Option.some.injEq, Prod.mk.injEq] at h
    obtain ⟨rfl, rfl, _⟩ := h
    omega
  | f + 1, st, root, st', f', r', h => by
    unfold dive at h
    by_cases h0 : root = 0
    · rw [if_pos h0] at h
      simp only [Option.some.injEq, Prod.mk.injEq] at h
      obtain ⟨rfl, rfl, _⟩ := h
      omega
    · rw [if_neg h0] at h
      by_cases h1 : nodeE R root ≠ 0
      · rw [if_pos h1] at h; cases h
      · rw [if_neg h1] at h
        have := dive_sum R f _ _ _ _ _ h
        simp only [List.length_cons] at this
        omega
theorem goO_len (R : Nat → Option (List Nat)) : ∀ (g f : Nat) (st : List Nat) (root : Nat), g = f + st.length → (goO R g f st root).length ≤ g
  | 0, f, st, root, h => by unfold goO; simp
  | g + 1, f, st, root, h => by
    unfold goO
    by_cases h0 : f = 0
    · rw [if_pos h0]; omega
    · rw [if_neg h0]
      cases hd : dive R f st root with
      | none => simp
      | some p =>
        obtain ⟨st', f', r'⟩ := p
        have hs := dive_sum R f st root st' f' r' hd
        cases st' with
        | nil => simp
        | cons x t =>
          simp only [List.length_cons] at hs ⊢
          have := goO_len R g f' t (nodeG R x).right (by omega)
          omega
structure KM (E : World → Nat → Prop) (A B : World) : Prop where
  kb : KB (E A) A B
  grow : ∀ k, E B k → E A k ∨ (A.heap.size ≤ k ∧ k < B.heap.size)
theorem KM.trans {E : World → Nat → Prop} {A B C : World} (h : KM E A B) (k : KM E B C) : KM E A C := by
  refine ⟨⟨Nat.le_trans h.kb.size k.kb.size, fun i o hi ho hn => ?_⟩, fun i hi => ?_⟩
  · have h1 := h.kb.same i o hi ho hn
    refine k.kb.same i o h1 ho (fun hB => ?_)
    rcases h.grow i hB with h2 | h2
    · exact hn h2
    · have := (Array.getElem?_eq_some_iff.1 hi).1; omega
  · rcases k.grow i hi with h1 | h1
    · rcases h.grow i h1 with h2 | h2
      · exact .inl h2
      · exact .inr ⟨h2.1, Nat.lt_of_lt_of_le h2.2 k.kb.size⟩
    · exact .inr ⟨Nat.le_trans h.kb.size h1.1, h1.2⟩
structure Mv (N : Nat) (E : World → Nat → Prop) (A B : World) : Prop where
  os : B.os = A.os
  tape : B.tape = A.tape
  output : B.output = A.output
  size : A.heap.size ≤ B.heap.size
  keep : ∀ (k : Nat) (o : Obj), A.heap[k]? = some o → (k < N ∨ E A k ∨ o.isCells = false) → B.heap[k]? = some o
theorem Mv.below {N : Nat} {E : World → Nat → Prop} {A B : World} (h : Below A.heap.size A B) : Mv N E A B :=
  ⟨h.os, h.tape, h.output, h.size, fun k o hk _ => (h.block k (Array.getElem?_eq_some_iff.1 hk).1).trans hk⟩
theorem Mv.to_below {N : Nat} {E : World → Nat → Prop} {A B : World} {m : Nat} (h : Mv N E A B) (hm : m ≤ N) (hA : m ≤ A.heap.size) : Below m A B :=
  ⟨h.os, h.tape, h.output, h.size, fun k hk => by
    obtain ⟨o, ho⟩ : ∃ o, A.heap[k]? = some o := ⟨_, Array.getElem?_eq_getElem (by omega)⟩
    rw [ho]; exact h.keep k o ho (.inl (by omega))⟩
structure EReq (N n0 : Nat) (E : World → Nat → Prop) : Prop where
  mv : ∀ X Y, n0 ≤ X.heap.size → Mv N E X Y → ∀ k, E Y k → E X k
def hsV (l : List Nat) : List Value := l.map fun h => .int .u64 (h : Nat)
structure InW (E : World → Nat → Prop) (N n0 s n B1 B2 base : Nat) (R : Nat → Option (List Nat)) (root : Nat) (v : Value) (st : List Nat) (W : World) : Prop where
  rd : Rd N W s R n
  b1 : W.cell? ⟨B1, 0, none⟩ = some (.pointer (some ⟨s, 0, none⟩))
  b2 : Boxed W B2 30 (.int .u64 (root : Nat))
  row : W.ownsRow base 30 1 v st.length (hsV st.reverse)
  nN : N ≤ n0
  bas : base ≤ W.heap.size
  big : n0 ≤ W.heap.size
  ok : ∀ k, E W k → N ≤ k ∧ k ≠ B1 ∧ k ≠ B2 ∧ v.ownBlock ≠ some k
  lt : ∀ k, E W k → k < W.heap.size
section
variable {E : World → Nat → Prop} {N n0 s n B1 B2 base : Nat} {R : Nat → Option (List Nat)} {root : Nat} {v : Value} {st : List Nat} {W W' : World}
theorem InW.below (h : InW E N n0 s n B1 B2 base R root v st W) (hE : EReq N n0 E) (hb : Below W.heap.size W W') : InW E N n0 s n B1 B2 base R root v st W' where
  rd := h.rd.below hb
  b1 := (hb.cell (p := ⟨B1, 0, none⟩) (cell_lt h.b1)).trans h.b1
  b2 := (hb.block _ h.b2.lt).trans h.b2
  row := ownsRow_kb (Cs := fun _ => False) h.row (KB.below hb) (fun _ h => h.elim)
  nN := h.nN
  bas := Nat.le_trans h.bas hb.size
  big := Nat.le_trans h.big hb.size
  ok := fun k hk => h.ok k (hE.mv W W' h.big (Mv.below hb) k hk)
  lt := fun k hk => Nat.lt_of_lt_of_le (h.lt k (hE.mv W W' h.big (Mv.below hb) k hk)) hb.size
theorem own_lt {w : World} {base : Nat} {e : TypeId} {v : Value} {n : Nat} {xs : List Value} (h : w.ownsRow base e 1 v n xs) {k : Nat} (hk : v.ownBlock = some k) : base ≤ k ∧ k < w.heap.size := by
  rcases h.2 with ⟨rfl, _⟩ | ⟨g, cap, cur, rfl, h2, h3, _⟩
  · simp [Value.ownBlock] at hk
  · have : g = k := by simpa [Value.ownBlock] using hk
    subst this
    exact ⟨h2, (Array.getElem?_eq_some_iff.1 h3).1⟩
theorem InW.step (h : InW E N n0 s n B1 B2 base R root v st W) (hk : KM E W W') : InW E N n0 s n B1 B2 base R root v st W' := by
  have hB2 : ¬ E W B2 := fun e => (h.ok _ e).2.2.1 rfl
  refine ⟨h.rd.kb hk.kb (fun k e => (h.ok k e).1), hk.kb.cell h.b1 (fun e => (h.ok _ e).2.1 rfl), hk.kb.same _ _ h.b2 (.inl rfl) hB2, ⟨h.row.1, ?_⟩, h.nN, Nat.le_trans h.bas hk.kb.size, Nat.le_trans h.big hk.kb.size, fun k e => ?_, fun k e => ?_⟩
  · rcases h.row.2 with h1 | ⟨g, cap, cur, h1, h2, h3, h4⟩
    · exact .inl h1
    · exact .inr ⟨g, cap, cur, h1, h2, hk.kb.same g _ h3 (.inl rfl) (fun e => (h.ok _ e).2.2.2 (by rw [h1]; rfl)), h4⟩
  · rcases hk.grow k e with h1 | h1
    · exact h.ok k h1
    · refine ⟨?_, fun e1 => ?_, fun e1 => ?_, fun e1 => ?_⟩
      · have h8 := h.nN; have h9 := h.big; omega
      · have := cell_lt h.b1; simp only at this; omega
      · have := h.b2.lt; omega
      · have := (own_lt h.row e1).2; omega
  · rcases hk.grow k e with h1 | h1
    · exact Nat.lt_of_lt_of_le (h.lt k h1) hk.kb.size
    · exact h1.2
theorem InW.setMv (h : InW E N n0 s n B1 B2 base R root v st W) (hB2 : N ≤ B2) (u : Value) : Mv N E W (W.setCell ⟨B2, 0, none⟩ u) :=
  ⟨rfl, rfl, rfl, by simp, fun k o hk hc => by
    have hne : k ≠ B2 := by
      rintro rfl
      rcases hc with h1 | h1 | h1
      · omega
      · exact (h.ok _ h1).2.2.1 rfl
      · rw [show W.heap[k]? = _ from h.b2] at hk
        cases hk
        cases h1
    exact (Below.heap_setCell W _ _ k hne).trans hk⟩
theorem InW.setRoot (h : InW E N n0 s n B1 B2 base R root v st W) (hE : EReq N n0 E) (hB2 : N ≤ B2) (h12 : B1 ≠ B2) (h2b : B2 < base) (r' : Nat) : InW E N n0 s n B1 B2 base R r' v st (W.setCell ⟨B2, 0, none⟩ (.int .u64 (r' : Nat))) where
  rd := h.rd.kb (Cs := fun k => k = B2) (KB.setCell (Cs := fun k => k = B2) (p := ⟨B2, 0, none⟩) rfl _) (fun k hk => by omega)
  b1 := (KB.setCell (Cs := fun k => k = B2) (p := ⟨B2, 0, none⟩) rfl _).cell h.b1 (by simpa using h12)
  b2 := h.b2.set _
  row := ownsRow_kb (Cs := fun k => k = B2) h.row (KB.setCell (Cs := fun k => k = B2) (p := ⟨B2, 0, none⟩) rfl _) (fun k hk => by omega)
  nN := h.nN
  bas := by simpa using h.bas
  big := by simpa using h.big
  ok := fun k hk => h.ok k (hE.mv _ _ h.big (h.setMv hB2 _) k hk)
  lt := fun k hk => by simpa using h.lt k (hE.mv _ _ h.big (h.setMv hB2 _) k hk)
theorem InW.pushMv (h : InW E N n0 s n B1 B2 base R root v st W) (hb : N ≤ base) {tmp : Obj} {w1 : World} (hgrow : (W.alloc tmp).grownBy w1 v.ownBlock) : Mv N E W w1 :=
  ⟨hgrow.os, hgrow.tape, hgrow.output, by have := hgrow.size; simp at this; omega, fun k o hk hc => by
    have hkl : k < W.heap.size := (Array.getElem?_eq_some_iff.1 hk).1
    refine (hgrow.block k (by simp; omega) (fun e => ?_)).trans ((Below.heap_alloc W tmp k hkl).trans hk)
    rcases hc with h1 | h1 | h1
    · have := (own_lt h.row e.symm).1; omega
    · exact (h.ok k h1).2.2.2 e.symm
    · rcases h.row.2 with ⟨rfl, _⟩ | ⟨g, cap, cur, rfl, h2, h3, _⟩
      · simp [Value.ownBlock] at e
      · have : k = g := by simpa [Value.ownBlock] using e
        subst this
        rw [h3] at hk
        cases hk
        cases h1⟩
theorem InW.push (h : InW E N n0 s n B1 B2 base R root v st W) (hE : EReq N n0 E) (hb : N ≤ base) (h2b : B2 < base) (h1b : B1 < base) {tmp : Obj} {w1 : World} {v' : Value} {x : Nat}
    (hown' : w1.ownsRow base 30 1 v' (st.length + 1) (hsV st.reverse ++ [.int .u64 (x : Nat)])) (hgrow : (W.alloc tmp).grownBy w1 v.ownBlock) (hblk : v'.ownBlock = v.ownBlock ∨ v'.ownBlock = some (W.alloc tmp).heap.size) :
    InW E N n0 s n B1 B2 base R root v' (x :: st) w1 := by
  have hm := h.pushMv hb hgrow
  have hkeep : ∀ k, k < W.heap.size → some k ≠ v.ownBlock → w1.heap[k]? = W.heap[k]? := fun k hk hne => (hgrow.block k (by simp; omega) hne).trans (Below.heap_alloc W tmp k hk)
  have hnot : ∀ k, k < base → some k ≠ v.ownBlock := fun k hk e => by have := (own_lt h.row e.symm).1; omega
  refine ⟨h.rd.kb (Cs := fun k => v.ownBlock = some k) ⟨hm.size, fun k o hk _ hn => (hkeep k (Array.getElem?_eq_some_iff.1 hk).1 (fun e => hn e.symm)).trans hk⟩ (fun k hk => Nat.le_trans hb (own_lt h.row hk).1), ?_, ?_, ?_, h.nN, Nat.le_trans h.bas hm.size, Nat.le_trans h.big hm.size, fun k hk => ?_, fun k hk => ?_⟩
  · exact (World.cell?_of_block (a := ⟨B1, 0, none⟩) (hkeep B1 (cell_lt h.b1) (hnot B1 h1b))).trans h.b1
  · exact (hkeep B2 h.b2.lt (hnot B2 h2b)).trans h.b2
  · rw [List.reverse_cons, hsV, List.map_append]
    exact hown'
  · have hkW := hE.mv _ _ h.big hm k hk
    obtain ⟨q1, q2, q3, q4⟩ := h.ok k hkW
    refine ⟨q1, q2, q3, fun e => ?_⟩
    rcases hblk with h1 | h1
    · exact q4 (h1.symm.trans e)
    · rw [h1] at e
      have := h.lt k hkW
      simp at e; omega
  · exact Nat.lt_of_lt_of_le (h.lt k (hE.mv _ _ h.big hm k hk)) hm.size
theorem InW.pop {g cap x : Nat} (h : InW E N n0 s n B1 B2 base R root (.slice (some ⟨g, 0, none⟩) (st.length + 1) cap) (x :: st) W) :
    InW E N n0 s n B1 B2 base R root (.slice (some ⟨g, 0, none⟩) st.length cap) st W ∧ W.cell? ⟨g, st.length, none⟩ = some (.int .u64 (x : Nat)) := by
  have hc : W.cell? ⟨g, st.length, none⟩ = some (.int .u64 (x : Nat)) := by
    have h1 := h.row.cells (g := g) rfl st.length (.int .u64 (x : Nat)) (by simp [hsV])
    have hadd : (⟨g, 0, none⟩ : Addr).add st.length = ⟨g, st.length, none⟩ := by unfold Addr.add; split <;> simp_all
    rwa [hadd] at h1
  refine ⟨⟨h.rd, h.b1, h.b2, ?_, h.nN, h.bas, h.big, h.ok, h.lt⟩, hc⟩
  refine ⟨by simp [hsV], .inr ?_⟩
  rcases h.row.2 with ⟨h1, _⟩ | ⟨g', cap', cur, h1, h2, h3, h4, h5, h6, h7⟩
  · cases h1
  · cases h1
    refine ⟨g, cap, cur, rfl, h2, h3, by simp only [List.length_cons] at h4; omega, h5, h6, ?_⟩
    have h8 : (cur.toList.take ((st.length + 1) * 1)).take (st.length * 1) = cur.toList.take (st.length * 1) := by rw [List.take_take, Nat.min_eq_left (by omega)]
    simp only [List.length_cons] at h7
    rw [← h8, h7, hsV, List.reverse_cons, List.map_append, List.take_append_of_le_length (by simp), List.take_of_length_le (by simp)]
    rfl
end
end Go.Proofs.YtijpmjaeanocpaaGreatDoor

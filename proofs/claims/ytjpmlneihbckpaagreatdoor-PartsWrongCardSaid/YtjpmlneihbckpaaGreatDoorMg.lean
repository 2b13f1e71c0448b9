/-
  The seat's own texts, part g: Chk1, Chk2, Chk3, Check, Tree, Tree2.
-/
import Derived.Test.YtjpmlneihbckpaaGreatDoorMf
/- walk.Check: what a round of its range keeps. -/
set_option linter.unusedVariables false
set_option linter.unusedSimpArgs false
namespace Go.Proofs.YtjpmlneihbckpaaGreatDoor
open Go.RowKit Go.Shelf
/-- a node in a box -/
def NdBox (W : World) (nb : Nat) (nd : Nd) : Prop := W.heap[nb]? = some (.cells #[.int .u64 (nd.key : Nat), .int .u64 (nd.val : Nat), .int .u64 (nd.left : Nat), .int .u64 (nd.right : Nat), .int .u64 (nd.mark : Nat), .int .u64 (nd.size : Nat)] 53 (0, 0))
theorem ndBox_new (W : World) (nd : Nd) : NdBox (W.alloc (Obj.cells #[Value.int IntKind.u64 (nd.key : Nat), Value.int IntKind.u64 (nd.val : Nat), Value.int IntKind.u64 (nd.left : Nat), Value.int IntKind.u64 (nd.right : Nat), Value.int IntKind.u64 (nd.mark : Nat), Value.int IntKind.u64 (nd.size : Nat)] 53)) W.heap.size nd := World.alloc_heap_new W _
theorem NdBox.kept {A B : World} {nb m : Nat} {nd : Nd} {row : Option Nat} (h : NdBox A nb nd) (hg : A.grownBy B row) (hr : ∀ r, row = some r → m ≤ r ∧ ∃ o : Obj, A.heap[r]? = some o ∧ o.isCells = false) : NdBox B nb nd :=
  (hg.block nb (Array.getElem?_eq_some_iff.1 h).1 (fun e => by
    obtain ⟨_, o, ho, hc⟩ := hr nb e.symm
    rw [show A.heap[nb]? = _ from h] at ho
    cases ho
    cases hc)).trans h
theorem NdBox.below {A B : World} {nb : Nat} {nd : Nd} (h : NdBox A nb nd) (hb : Below A.heap.size A B) : NdBox B nb nd := (hb.block nb (Array.getElem?_eq_some_iff.1 h).1).trans h
theorem NdBox.cells {A : World} {nb : Nat} {nd : Nd} (h : NdBox A nb nd) : A.cell? ⟨nb, 0, none⟩ = some (.int .u64 (nd.key : Nat)) ∧ A.cell? ⟨nb, 1, none⟩ = some (.int .u64 (nd.val : Nat)) ∧ A.cell? ⟨nb, 2, none⟩ = some (.int .u64 (nd.left : Nat)) ∧
    A.cell? ⟨nb, 3, none⟩ = some (.int .u64 (nd.right : Nat)) ∧ A.cell? ⟨nb, 4, none⟩ = some (.int .u64 (nd.mark : Nat)) ∧ A.cell? ⟨nb, 5, none⟩ = some (.int .u64 (nd.size : Nat)) := by
  have h' : A.heap[nb]? = _ := h
  refine ⟨?_, ?_, ?_, ?_, ?_, ?_⟩ <;> simp [World.cell?, h']
/-- the cells of Check: b: its first box, B: the first of those that it makes behind its first look -/
structure ChkW (w : World) (s B : Nat) (c : Cst) (W : World) : Prop where
  b2 : Boxed W w.heap.size 25 (.pointer (some ⟨s, 0, none⟩))
  b4 : Boxed W (w.heap.size + 1) 26 (.int .i64 0)
  b9 : Boxed W (B + 3) 148 (.map (some (B + 1)))
  b11 : Boxed W (B + 5) 9 (.string c.last)
  b12 : Boxed W (B + 6) 4 (.bool c.first)
  seen : ∃ D, SeenMap W (B + 1) c.S.length D ∧ SeenIs D c.S
  sides : ∃ v, Boxed W (B + 4) 49 v ∧ W.ownsRow (B + 2) 32 1 v c.sides.length (hsV c.sides)
  below : Below w.heap.size w W
  big : w.heap.size + 2 ≤ B
def ChkE (b B : Nat) (W : World) (k : Nat) : Prop := k = b ∨ k = b + 1 ∨ k = B + 1 ∨ k = B + 3 ∨ k = B + 5 ∨ k = B + 6 ∨ OutB (B + 4) W k
theorem seenMap_same {w w' : World} {b m : Nat} {D : DW} (h : SeenMap w b m D) (hk : w'.heap[b]? = w.heap[b]?) : SeenMap w' b m D := by
  obtain ⟨es, clock, hb, F, rest⟩ := h
  exact ⟨es, clock, hk.trans hb, F, rest⟩
theorem seenMap_obj {w : World} {b m : Nat} {D : DW} (h : SeenMap w b m D) : ∃ o, w.heap[b]? = some o ∧ o.isCells = false ∧ o.isWalk = true := by
  obtain ⟨es, clock, hb, F, rest⟩ := h
  exact ⟨_, hb, rfl, rfl⟩
section
variable {w W W' : World} {s B : Nat} {c : Cst}
/-- what lies as it lay keeps it -/
theorem ChkW.keep (h : ChkW w s B c W) (hk : ∀ (k : Nat) (o : Obj), W.heap[k]? = some o → ChkE w.heap.size B W k → W'.heap[k]? = some o) (hb : Below w.heap.size w W') : ChkW w s B c W' := by
  obtain ⟨D, hm, hs⟩ := h.seen
  obtain ⟨v, hv, hrow⟩ := h.sides
  obtain ⟨o, ho, _⟩ := seenMap_obj hm
  refine ⟨hk _ _ h.b2 (.inl rfl), hk _ _ h.b4 (.inr (.inl rfl)), hk _ _ h.b9 (.inr (.inr (.inr (.inl rfl)))), hk _ _ h.b11 (.inr (.inr (.inr (.inr (.inl rfl))))), hk _ _ h.b12 (.inr (.inr (.inr (.inr (.inr (.inl rfl)))))), ?_, ?_, hb, h.big⟩
  · exact ⟨D, seenMap_same hm ((hk _ o ho (.inr (.inr (.inl rfl)))).trans ho.symm), hs⟩
  · refine ⟨v, hk _ _ hv (.inr (.inr (.inr (.inr (.inr (.inr (.inl rfl))))))), hrow.1, ?_⟩
    rcases hrow.2 with h4 | ⟨g, cap, cur, h4, h5, h6, h7⟩
    · exact .inl h4
    · exact .inr ⟨g, cap, cur, h4, h5, hk g _ h6 (.inr (.inr (.inr (.inr (.inr (.inr (.inr ⟨c.sides.length, cap, by rw [hv.cell, h4]⟩))))))), h7⟩
theorem ChkW.below' (h : ChkW w s B c W) (hb : Below W.heap.size W W') : ChkW w s B c W' :=
  h.keep (fun k o hk _ => (hb.block k (Array.getElem?_eq_some_iff.1 hk).1).trans hk) (h.below.trans (hb.mono h.below.size))
theorem ChkW.mv (h : ChkW w s B c W) (hm : Mv w.heap.size (ChkE w.heap.size B) W W') : ChkW w s B c W' :=
  h.keep (fun k o hk hc => hm.keep k o hk (.inr (.inl hc))) (h.below.trans (hm.to_below (Nat.le_refl _) h.below.size))
theorem chkE_cell {b : Nat} {X Y : World} (h : Y.cell? ⟨B + 4, 0, none⟩ = X.cell? ⟨B + 4, 0, none⟩) (k : Nat) (hk : ChkE b B Y k) : ChkE b B X k := by
  rcases hk with h1 | h1 | h1 | h1 | h1 | h1 | h1
  · exact .inl h1
  · exact .inr (.inl h1)
  · exact .inr (.inr (.inl h1))
  · exact .inr (.inr (.inr (.inl h1)))
  · exact .inr (.inr (.inr (.inr (.inl h1))))
  · exact .inr (.inr (.inr (.inr (.inr (.inl h1)))))
  · exact .inr (.inr (.inr (.inr (.inr (.inr (outB_cell h k h1))))))
theorem chkE_req {N n0 b : Nat} (hB : B + 4 < n0) : EReq N n0 (ChkE b B) := ⟨fun X Y hX hm k hk => by
  obtain ⟨o, ho⟩ : ∃ o, X.heap[B + 4]? = some o := ⟨_, Array.getElem?_eq_getElem (by omega)⟩
  exact chkE_cell (World.cell?_of_block (a := ⟨B + 4, 0, none⟩) ((hm.keep _ o ho (.inr (.inl (.inr (.inr (.inr (.inr (.inr (.inr (.inl rfl))))))))) ).trans ho.symm)) k hk⟩
theorem chk_own {β : Type} (w : World) (s B n : Nat) (f : β → Option Cst) (hn : B + 7 ≤ n) (hw : w.heap.size + 2 ≤ B) : OwnFrom n (fun a W => ∃ c, f a = some c ∧ ChkW w s B c W) := fun a X Y row hs hg hr => by
  obtain ⟨c, hc, h⟩ := hs
  have hnot : ∀ (k : Nat) (o : Obj), X.heap[k]? = some o → ChkE w.heap.size B X k → some k ≠ row := fun k o hk hE e => by
    obtain ⟨h1, o', h2, h3⟩ := hr k e.symm
    rcases hE with h4 | h4 | h4 | h4 | h4 | h4 | h4 | ⟨m, cc, h4⟩
    all_goals try (omega)
    obtain ⟨v, hv, hrow⟩ := h.sides
    rw [hv.cell] at h4
    simp only [Option.some.injEq] at h4
    rcases hrow.2 with h5 | ⟨g, cap, cur, h5, h6, h7, _⟩
    · rw [h5.1] at h4; cases h4
    · rw [h5] at h4
      cases h4
      rw [h7] at h2
      cases h2
      cases h3
  refine ⟨c, hc, h.keep (fun k o hk hE => (hg.block k (Array.getElem?_eq_some_iff.1 hk).1 (hnot k o hk hE)).trans hk) ?_⟩
  exact ownFrom_below (β := β) (Nat.le_refl _) (show w.heap.size ≤ n by omega) a X Y row h.below hg hr
/-- a turn of one block that is Check's own -/
theorem km_turn {E : World → Nat → Prop} {k : Nat} (hg : W.grownBy W' (some k)) (hk : E W k) (hE : ∀ j, E W' j → E W j) : KM E W W' :=
  ⟨⟨hg.size, fun i o hi _ hn => (hg.block i (Array.getElem?_eq_some_iff.1 hi).1 (fun e => hn (by cases e; exact hk))).trans hi⟩, fun j hj => .inl (hE j hj)⟩
theorem km_below {E : World → Nat → Prop} (hb : Below W.heap.size W W') (hE : ∀ j, E W' j → E W j) : KM E W W' := ⟨KB.below hb, fun j hj => .inl (hE j hj)⟩
theorem ChkW.km_below (h : ChkW w s B c W) (hb : Below W.heap.size W W') : KM (ChkE w.heap.size B) W W' :=
  Go.Proofs.YtjpmlneihbckpaaGreatDoor.km_below hb (fun j hj => chkE_cell (hb.cell (p := ⟨B + 4, 0, none⟩) (by obtain ⟨v, hv, _⟩ := h.sides; exact hv.lt)) j hj)
theorem ChkW.not_nd (h : ChkW w s B c W) {nb : Nat} {nd : Nd} (hn : NdBox W nb nd) : ¬ ChkE w.heap.size B W nb := by
  have hbox : ∀ (b : Nat) (t : TypeId) (v : Value), t ≠ 53 → Boxed W b t v → nb ≠ b := by
    rintro b t v ht hb rfl
    have h9 := (show W.heap[nb]? = _ from hb).symm.trans (show W.heap[nb]? = _ from hn)
    simp at h9
  obtain ⟨D, hm, _⟩ := h.seen
  obtain ⟨v, hv, hrow⟩ := h.sides
  rintro (h1 | h1 | h1 | h1 | h1 | h1 | h1 | ⟨m, cc, h1⟩)
  · exact hbox _ _ _ (by decide) h.b2 h1
  · exact hbox _ _ _ (by decide) h.b4 h1
  · obtain ⟨o, ho, hc, _⟩ := seenMap_obj hm
    rw [← h1, show W.heap[nb]? = _ from hn] at ho
    cases ho
    cases hc
  · exact hbox _ _ _ (by decide) h.b9 h1
  · exact hbox _ _ _ (by decide) h.b11 h1
  · exact hbox _ _ _ (by decide) h.b12 h1
  · exact hbox _ _ _ (by decide) hv h1
  · rw [hv.cell] at h1
    simp only [Option.some.injEq] at h1
    rcases hrow.2 with h5 | ⟨g, cap, cur, h5, h6, h7, _⟩
    · rw [h5.1] at h1; cases h1
    · rw [h5] at h1
      cases h1
      have h9 := h7.symm.trans (show W.heap[nb]? = _ from hn)
      simp at h9
/-- an error is told -/
theorem chk_bad (h : ChkW w s B c W) {m : Nat} {V : World} (hk : KeepsFrom m V W) :
    KeepsFrom m V (W.setCell ⟨w.heap.size + 1, 0, none⟩ (.int .i64 8)) ∧ Boxed (W.setCell ⟨w.heap.size + 1, 0, none⟩ (.int .i64 8)) (w.heap.size + 1) 26 (.int .i64 8) ∧ Below w.heap.size w (W.setCell ⟨w.heap.size + 1, 0, none⟩ (.int .i64 8)) :=
  ⟨hk.trans ((KeepsOthers.setCell W _ _).from m), h.b4.set _, h.below.setCell (p := ⟨w.heap.size + 1, 0, none⟩) (by simp) _⟩
theorem three_index (a b d : Nat) (k : Nat) (hk : k < 3) (W : World) : (Instr.index 150 (.agg #[.int .u64 (a : Nat), .int .u64 (b : Nat), .int .u64 (d : Nat)]) (.int .i64 (k : Nat))).run Tryz.prog W = .ok (.int .u64 (([a, b, d][k]?).getD 0 : Nat)) W := by
  match k, hk with
  | 0, _ => simp [Instr.index, run_underlying Tryz.underlying150, asIntOf, go_sem]
  | 1, _ => simp [Instr.index, run_underlying Tryz.underlying150, asIntOf, go_sem]
  | 2, _ => simp [Instr.index, run_underlying Tryz.underlying150, asIntOf, go_sem]
  | k + 3, h => omega
theorem three_lt {a b d : Nat} (ha : a < 18446744073709551616) (hb : b < 18446744073709551616) (hd : d < 18446744073709551616) (k : Nat) : ([a, b, d][k]?).getD 0 < 18446744073709551616 := by
  rcases k with _ | _ | _ | k <;> simp [*]
theorem _root_.Go.KeepsFrom.mono {A B : Nat} {X Y : World} (h : KeepsFrom A X Y) (hAB : A ≤ B) : KeepsFrom B X Y := ⟨h.size, fun k o hk => h.same k o (Nat.le_trans hAB hk)⟩
theorem chk3_snoc : ∀ (l S : List Nat) (x : Nat), chk3 S (l ++ [x]) = (chk3 S l).bind fun S' => if x ∈ S' then none else some (S' ++ [x])
  | [], S, x => by simp [chk3]
  | a :: t, S, x => by
    rw [List.cons_append, chk3, chk3]
    by_cases h : a ∈ S
    · rw [if_pos h, if_pos h]; rfl
    · rw [if_neg h, if_neg h]; exact chk3_snoc t _ x
theorem chk3_none : ∀ (l t S : List Nat), chk3 S l = none → chk3 S (l ++ t) = none
  | [], t, S, h => by cases h
  | a :: l, t, S, h => by
    rw [List.cons_append, chk3]
    rw [chk3] at h
    by_cases ha : a ∈ S
    · rw [if_pos ha]
    · rw [if_neg ha] at h ⊢; exact chk3_none l t _ h
/-- the seen map is turned -/
theorem ChkW.seeTurn (h : ChkW w s B c W) (hg : W.grownBy W' (some (B + 1))) : KM (ChkE w.heap.size B) W W' ∧ KeepsFrom (B + 7) W W' ∧ Below w.heap.size w W' ∧ W'.heap[B + 4]? = W.heap[B + 4]? ∧ Boxed W' (w.heap.size + 1) 26 (.int .i64 0) := by
  have hbg := h.big
  obtain ⟨v, hv, hrow⟩ := h.sides
  have h4 : W'.heap[B + 4]? = W.heap[B + 4]? := hg.block _ hv.lt (fun e => by simp only [Option.some.injEq] at e; omega)
  refine ⟨km_turn hg (.inr (.inr (.inl rfl))) (fun j hj => chkE_cell (World.cell?_of_block (a := ⟨B + 4, 0, none⟩) h4) j hj), KeepsFrom.of_grownBy hg (fun j e => by cases e; omega), ?_, h4, h.b4.kept hg (fun e => by simp only [Option.some.injEq] at e; omega)⟩
  exact h.below.trans ⟨hg.os, hg.tape, hg.output, hg.size, fun k hk => hg.block k (Nat.lt_of_lt_of_le hk h.below.size) (fun e => by simp only [Option.some.injEq] at e; omega)⟩
theorem ChkW.see (h : ChkW w s B c W) (hg : W.grownBy W' (some (B + 1))) {D : DW} {x : Nat} (hs : SeenIs D c.S) (hx : x ∉ c.S) (hm : SeenMap W' (B + 1) (c.S.length + 1) (D.put (.int .u64 (x : Nat)) (.lit (.int .i64 1)))) :
    ChkW w s B { c with S := c.S ++ [x] } W' := by
  obtain ⟨_, _, hb, h4, h1⟩ := h.seeTurn hg
  have hbg := h.big
  obtain ⟨v, hv, hrow⟩ := h.sides
  refine ⟨h.b2.kept hg (fun e => by simp only [Option.some.injEq] at e; omega), h1, h.b9.kept hg (fun e => by simp only [Option.some.injEq] at e; omega), h.b11.kept hg (fun e => by simp only [Option.some.injEq] at e; omega), h.b12.kept hg (fun e => by simp only [Option.some.injEq] at e; omega), ⟨_, ?_, hs.put hx⟩, ⟨v, h4.trans hv, hrow.1, ?_⟩, hb, hbg⟩
  · simpa using hm
  · rcases hrow.2 with h5 | ⟨g, cap, cur, h5, h6, h7, h8⟩
    · exact .inl h5
    · exact .inr ⟨g, cap, cur, h5, h6, (hg.block g (Array.getElem?_eq_some_iff.1 h7).1 (fun e => by simp only [Option.some.injEq] at e; omega)).trans h7, h8⟩
theorem chk_start {w w1 : World} {s x : Nat} (nx : Nd) (hb : Below w.heap.size w w1) (h2 : Boxed w1 w.heap.size 25 (.pointer (some ⟨s, 0, none⟩))) (h4 : Boxed w1 (w.heap.size + 1) 26 (.int .i64 0)) :
    ChkW w s w1.heap.size ⟨[], ⟨#[]⟩, true, [x]⟩ (((((((w1.alloc (Obj.cells #[Value.int IntKind.u64 (nx.key : Nat), Value.int IntKind.u64 (nx.val : Nat), Value.int IntKind.u64 (nx.left : Nat), Value.int IntKind.u64 (nx.right : Nat), Value.int IntKind.u64 (nx.mark : Nat), Value.int IntKind.u64 (nx.size : Nat)] 53)).alloc (Obj.map #[] 0)).alloc (Obj.cells #[Value.int IntKind.u64 (x : Nat)] 32)).alloc (Obj.cells #[Value.map (some (w1.heap.size + 1))] 148)).alloc (Obj.cells #[Value.slice (some { block := w1.heap.size + 1 + 1, off := 0 }) 1 1] 49)).alloc (Obj.cells #[Value.string ⟨#[]⟩] 9)).alloc (Obj.cells #[Value.bool true] 4)) ∧
    Boxed (((((((w1.alloc (Obj.cells #[Value.int IntKind.u64 (nx.key : Nat), Value.int IntKind.u64 (nx.val : Nat), Value.int IntKind.u64 (nx.left : Nat), Value.int IntKind.u64 (nx.right : Nat), Value.int IntKind.u64 (nx.mark : Nat), Value.int IntKind.u64 (nx.size : Nat)] 53)).alloc (Obj.map #[] 0)).alloc (Obj.cells #[Value.int IntKind.u64 (x : Nat)] 32)).alloc (Obj.cells #[Value.map (some (w1.heap.size + 1))] 148)).alloc (Obj.cells #[Value.slice (some { block := w1.heap.size + 1 + 1, off := 0 }) 1 1] 49)).alloc (Obj.cells #[Value.string ⟨#[]⟩] 9)).alloc (Obj.cells #[Value.bool true] 4)) (w1.heap.size + 4) 49 (Value.slice (some { block := w1.heap.size + 1 + 1, off := 0 }) 1 1) := by
  have hl4 := h4.lt
  obtain ⟨B, hB⟩ : ∃ B, B = w1.heap.size := ⟨_, rfl⟩
  rw [← hB]
  have g2 := h2.alloc (Obj.cells #[Value.int IntKind.u64 (nx.key : Nat), Value.int IntKind.u64 (nx.val : Nat), Value.int IntKind.u64 (nx.left : Nat), Value.int IntKind.u64 (nx.right : Nat), Value.int IntKind.u64 (nx.mark : Nat), Value.int IntKind.u64 (nx.size : Nat)] 53)
  have g4 := h4.alloc (Obj.cells #[Value.int IntKind.u64 (nx.key : Nat), Value.int IntKind.u64 (nx.val : Nat), Value.int IntKind.u64 (nx.left : Nat), Value.int IntKind.u64 (nx.right : Nat), Value.int IntKind.u64 (nx.mark : Nat), Value.int IntKind.u64 (nx.size : Nat)] 53)
  have gb := hb.alloc hb.size (Obj.cells #[Value.int IntKind.u64 (nx.key : Nat), Value.int IntKind.u64 (nx.val : Nat), Value.int IntKind.u64 (nx.left : Nat), Value.int IntKind.u64 (nx.right : Nat), Value.int IntKind.u64 (nx.mark : Nat), Value.int IntKind.u64 (nx.size : Nat)] 53)
  obtain ⟨A1, hA1⟩ : ∃ A, A = w1.alloc (Obj.cells #[Value.int IntKind.u64 (nx.key : Nat), Value.int IntKind.u64 (nx.val : Nat), Value.int IntKind.u64 (nx.left : Nat), Value.int IntKind.u64 (nx.right : Nat), Value.int IntKind.u64 (nx.mark : Nat), Value.int IntKind.u64 (nx.size : Nat)] 53) := ⟨_, rfl⟩
  have z1 : A1.heap.size = B + 1 := by rw [hA1, hB]; simp
  rw [← hA1] at g2 g4 gb ⊢
  clear hA1 h2 h4 hb
  have m1 : SeenMap (A1.alloc (Obj.map #[] 0)) (B + 1) 0 (.map []) := by rw [← z1]; exact World.ownsMap_made A1 _ _ _
  have g2 := g2.alloc (Obj.map #[] 0)
  have g4 := g4.alloc (Obj.map #[] 0)
  have gb := gb.alloc (by omega) (Obj.map #[] 0)
  obtain ⟨A2, hA2⟩ : ∃ A, A = A1.alloc (Obj.map #[] 0) := ⟨_, rfl⟩
  have z2 : A2.heap.size = B + 2 := by rw [hA2]; simp [z1]
  rw [← hA2] at g2 g4 gb m1 ⊢
  clear hA2
  have r3 : (A2.alloc (Obj.cells #[Value.int IntKind.u64 (x : Nat)] 32)).heap[B + 2]? = some (.cells #[Value.int IntKind.u64 (x : Nat)] 32 (0, 0)) := by rw [← z2]; exact World.alloc_heap_new A2 _
  have m1 := m1.alloc (Obj.cells #[Value.int IntKind.u64 (x : Nat)] 32)
  have g2 := g2.alloc (Obj.cells #[Value.int IntKind.u64 (x : Nat)] 32)
  have g4 := g4.alloc (Obj.cells #[Value.int IntKind.u64 (x : Nat)] 32)
  have gb := gb.alloc (by omega) (Obj.cells #[Value.int IntKind.u64 (x : Nat)] 32)
  obtain ⟨A3, hA3⟩ : ∃ A, A = A2.alloc (Obj.cells #[Value.int IntKind.u64 (x : Nat)] 32) := ⟨_, rfl⟩
  have z3 : A3.heap.size = B + 3 := by rw [hA3]; simp [z2]
  rw [← hA3] at g2 g4 gb m1 r3 ⊢
  clear hA3
  have row : A3.ownsRow (B + 2) 32 1 (Value.slice (some { block := B + 1 + 1, off := 0 }) 1 1) 1 (hsV [x]) := ⟨rfl, .inr ⟨B + 2, 1, _, rfl, Nat.le_refl _, r3, Nat.le_refl _, by unfold maxLen; omega, rfl, rfl⟩⟩
  have t9 : Boxed (A3.alloc (Obj.cells #[Value.map (some (B + 1))] 148)) (B + 3) 148 (.map (some (B + 1))) := by rw [← z3]; exact Boxed.new A3 _ _
  have row := ownsRow_kb (Cs := fun _ => False) row (KB.below ((Below.refl _ A3).alloc (Nat.le_refl _) (Obj.cells #[Value.map (some (B + 1))] 148))) (fun _ h => h.elim)
  have m1 := m1.alloc (Obj.cells #[Value.map (some (B + 1))] 148)
  have g2 := g2.alloc (Obj.cells #[Value.map (some (B + 1))] 148)
  have g4 := g4.alloc (Obj.cells #[Value.map (some (B + 1))] 148)
  have gb := gb.alloc (by omega) (Obj.cells #[Value.map (some (B + 1))] 148)
  obtain ⟨A4, hA4⟩ : ∃ A, A = A3.alloc (Obj.cells #[Value.map (some (B + 1))] 148) := ⟨_, rfl⟩
  have z4 : A4.heap.size = B + 4 := by rw [hA4]; simp [z3]
  rw [← hA4] at g2 g4 gb m1 row t9 ⊢
  clear hA4 r3
  have t10 : Boxed (A4.alloc (Obj.cells #[Value.slice (some { block := B + 1 + 1, off := 0 }) 1 1] 49)) (B + 4) 49 (Value.slice (some { block := B + 1 + 1, off := 0 }) 1 1) := by rw [← z4]; exact Boxed.new A4 _ _
  have row := ownsRow_kb (Cs := fun _ => False) row (KB.below ((Below.refl _ A4).alloc (Nat.le_refl _) (Obj.cells #[Value.slice (some { block := B + 1 + 1, off := 0 }) 1 1] 49))) (fun _ h => h.elim)
  have m1 := m1.alloc (Obj.cells #[Value.slice (some { block := B + 1 + 1, off := 0 }) 1 1] 49)
  have g2 := g2.alloc (Obj.cells #[Value.slice (some { block := B + 1 + 1, off := 0 }) 1 1] 49)
  have g4 := g4.alloc (Obj.cells #[Value.slice (some { block := B + 1 + 1, off := 0 }) 1 1] 49)
  have t9 := t9.alloc (Obj.cells #[Value.slice (some { block := B + 1 + 1, off := 0 }) 1 1] 49)
  have gb := gb.alloc (by omega) (Obj.cells #[Value.slice (some { block := B + 1 + 1, off := 0 }) 1 1] 49)
  obtain ⟨A5, hA5⟩ : ∃ A, A = A4.alloc (Obj.cells #[Value.slice (some { block := B + 1 + 1, off := 0 }) 1 1] 49) := ⟨_, rfl⟩
  have z5 : A5.heap.size = B + 5 := by rw [hA5]; simp [z4]
  rw [← hA5] at g2 g4 gb m1 row t9 t10 ⊢
  clear hA5
  have t11 : Boxed (A5.alloc (Obj.cells #[Value.string ⟨#[]⟩] 9)) (B + 5) 9 (.string ⟨#[]⟩) := by rw [← z5]; exact Boxed.new A5 _ _
  have row := ownsRow_kb (Cs := fun _ => False) row (KB.below ((Below.refl _ A5).alloc (Nat.le_refl _) (Obj.cells #[Value.string ⟨#[]⟩] 9))) (fun _ h => h.elim)
  have m1 := m1.alloc (Obj.cells #[Value.string ⟨#[]⟩] 9)
  have g2 := g2.alloc (Obj.cells #[Value.string ⟨#[]⟩] 9)
  have g4 := g4.alloc (Obj.cells #[Value.string ⟨#[]⟩] 9)
  have t9 := t9.alloc (Obj.cells #[Value.string ⟨#[]⟩] 9)
  have t10 := t10.alloc (Obj.cells #[Value.string ⟨#[]⟩] 9)
  have gb := gb.alloc (by omega) (Obj.cells #[Value.string ⟨#[]⟩] 9)
  obtain ⟨A6, hA6⟩ : ∃ A, A = A5.alloc (Obj.cells #[Value.string ⟨#[]⟩] 9) := ⟨_, rfl⟩
  have z6 : A6.heap.size = B + 6 := by rw [hA6]; simp [z5]
  rw [← hA6] at g2 g4 gb m1 row t9 t10 t11 ⊢
  clear hA6
  have t12 : Boxed (A6.alloc (Obj.cells #[Value.bool true] 4)) (B + 6) 4 (.bool true) := by rw [← z6]; exact Boxed.new A6 _ _
  have row := ownsRow_kb (Cs := fun _ => False) row (KB.below ((Below.refl _ A6).alloc (Nat.le_refl _) (Obj.cells #[Value.bool true] 4))) (fun _ h => h.elim)
  exact ⟨⟨g2.alloc _, g4.alloc _, t9.alloc _, t11.alloc _, t12, ⟨_, m1.alloc _, SeenIs.empty⟩, ⟨_, t10.alloc _, row⟩, gb.alloc (by omega) _, by omega⟩, t10.alloc _⟩
end
end Go.Proofs.YtjpmlneihbckpaaGreatDoor
/- walk.Check: bounds. -/
set_option linter.unusedVariables false
set_option linter.unusedSimpArgs false
namespace Go.Proofs.YtjpmlneihbckpaaGreatDoor
open Go.RowKit Go.Shelf
theorem pairE_lt (R : Nat → Option (List Nat)) (x : Nat) : pairE R x < 10 := by
  unfold pairE
  have h1 := nodeE_lt R x
  have h2 := blobE_lt R (nodeG R x).key
  have h3 := blobE_lt R (nodeG R x).val
  split
  · exact h1
  · split
    · exact h2
    · exact h3
theorem dive_lt {R : Nat → Option (List Nat)} (hN : ∀ x, (nodeG R x).Ok) : ∀ (f : Nat) (st : List Nat) (root : Nat) (st' : List Nat) (f' r' : Nat), (∀ y ∈ st, y < 18446744073709551616) → root < 18446744073709551616 →
    dive R f st root = some (st', f', r') → ∀ y ∈ st', y < 18446744073709551616
  | 0, st, root, st', f', r', hst, hr, h => by
    unfold dive at h
    simp only [Option.some.injEq, Prod.mk.injEq] at h
    obtain ⟨rfl, _, _⟩ := h
    exact hst
  | f + 1, st, root, st', f', r', hst, hr, h => by
    unfold dive at h
    by_cases h0 : root = 0
    · rw [if_pos h0] at h
      simp only [Option.some.injEq, Prod.mk.injEq] at h
      obtain ⟨rfl, _, _⟩ := h
      exact hst
    · rw [if_neg h0] at h
      by_cases h1 : nodeE R root ≠ 0
      · rw [if_pos h1] at h; cases h
      · rw [if_neg h1] at h
        refine dive_lt hN f _ _ _ _ _ (fun y hy => ?_) (hN root).left h
        rcases List.mem_cons.1 hy with rfl | hy
        · exact hr
        · exact hst y hy
theorem goO_lt {R : Nat → Option (List Nat)} (hN : ∀ x, (nodeG R x).Ok) : ∀ (g f : Nat) (st : List Nat) (root : Nat), (∀ y ∈ st, y < 18446744073709551616) → root < 18446744073709551616 → ∀ y ∈ goO R g f st root, y < 18446744073709551616
  | 0, f, st, root, hst, hr, y, hy => by unfold goO at hy; simp at hy
  | g + 1, f, st, root, hst, hr, y, hy => by
    unfold goO at hy
    by_cases h0 : f = 0
    · rw [if_pos h0] at hy; exact hst y hy
    · rw [if_neg h0] at hy
      cases hd : dive R f st root with
      | none => rw [hd] at hy; simp at hy
      | some p =>
        obtain ⟨st', f', r'⟩ := p
        rw [hd] at hy
        have hs := dive_lt hN f st root st' f' r' hst hr hd
        cases st' with
        | nil => simp at hy
        | cons x t =>
          simp only [List.mem_cons] at hy
          rcases hy with rfl | hy
          · exact hs _ (by simp)
          · exact goO_lt hN g f' t (nodeG R x).right (fun z hz => hs z (by simp [hz])) (hN x).right y hy
theorem inR_lt {R : Nat → Option (List Nat)} (hN : ∀ x, (nodeG R x).Ok) {n root : Nat} (hr : root < 18446744073709551616) : ∀ y ∈ inR R n root, y < 18446744073709551616 :=
  goO_lt hN _ _ _ _ (by simp) hr
theorem step_len {R : Nat → Option (List Nat)} {c c' : Cst} {h : Nat} (hs : c.step R h = some c') : c'.S.length = c.S.length + 3 ∧ c'.sides.length = c.sides.length + 2 := by
  unfold Cst.step at hs
  by_cases hb : c.bad R h = true
  · rw [if_pos hb] at hs; cases hs
  · rw [if_neg hb] at hs
    cases h3 : chk3 c.S [h, (nodeG R h).key, (nodeG R h).val] with
    | none => rw [h3] at hs; cases hs
    | some S' =>
      rw [h3] at hs
      simp only [Option.map_some, Option.some.injEq] at hs
      subst hs
      have := chk3_len _ _ _ h3
      simp at this ⊢
      omega
theorem chkL_len {R : Nat → Option (List Nat)} {root : Nat} {l : List Nat} {c : Cst} (h : chkL R root l = some c) : c.S.length = 3 * l.length ∧ c.sides.length = 2 * l.length + 1 := by
  obtain ⟨m, hm⟩ : ∃ m, l.length = m := ⟨_, rfl⟩
  induction m generalizing l c with
  | zero =>
    have : l = [] := List.eq_nil_of_length_eq_zero hm
    subst this
    unfold chkL at h
    simp only [List.foldl_nil, Option.some.injEq] at h
    subst h
    simp
  | succ m ih =>
    obtain ⟨l', x, rfl⟩ : ∃ l' x, l = l' ++ [x] := ⟨l.dropLast, l.getLast (by intro e; subst e; simp at hm), (List.dropLast_concat_getLast _).symm⟩
    rw [chkL_snoc] at h
    cases hc : chkL R root l' with
    | none => rw [hc] at h; cases h
    | some c' =>
      rw [hc] at h
      have h1 := ih hc (by simpa using hm)
      have h2 := step_len (show c'.step R x = some c from h)
      simp only [List.length_append, List.length_cons, List.length_nil]
      omega
theorem chkL_sides {R : Nat → Option (List Nat)} (hN : ∀ x, (nodeG R x).Ok) {root : Nat} (hr : root < 18446744073709551616) {l : List Nat} {c : Cst} (h : chkL R root l = some c) : ∀ y ∈ c.sides, y < 18446744073709551616 := by
  obtain ⟨m, hm⟩ : ∃ m, l.length = m := ⟨_, rfl⟩
  induction m generalizing l c with
  | zero =>
    have : l = [] := List.eq_nil_of_length_eq_zero hm
    subst this
    unfold chkL at h
    simp only [List.foldl_nil, Option.some.injEq] at h
    subst h
    simpa using hr
  | succ m ih =>
    obtain ⟨l', x, rfl⟩ : ∃ l' x, l = l' ++ [x] := ⟨l.dropLast, l.getLast (by intro e; subst e; simp at hm), (List.dropLast_concat_getLast _).symm⟩
    rw [chkL_snoc] at h
    cases hc : chkL R root l' with
    | none => rw [hc] at h; cases h
    | some c' =>
      rw [hc] at h
      have h1 := ih hc (by simpa using hm)
      have hs : c'.step R x = some c := h
      unfold Cst.step at hs
      by_cases hb : c'.bad R x = true
      · rw [if_pos hb] at hs; cases hs
      · rw [if_neg hb] at hs
        cases h3 : chk3 c'.S [x, (nodeG R x).key, (nodeG R x).val] with
        | none => rw [h3] at hs; cases hs
        | some S' =>
          rw [h3] at hs
          simp only [Option.map_some, Option.some.injEq] at hs
          subst hs
          intro y hy
          simp only [List.mem_append, List.mem_cons, List.not_mem_nil, or_false] at hy
          rcases hy with hy | rfl | rfl
          · exact h1 y hy
          · exact (hN x).left
          · exact (hN x).right
end Go.Proofs.YtjpmlneihbckpaaGreatDoor
/- walk.Check: what the end of a round leaves. -/
set_option linter.unusedVariables false
set_option linter.unusedSimpArgs false
namespace Go.Proofs.YtjpmlneihbckpaaGreatDoor
open Go.RowKit Go.Shelf
theorem wrap_three (n : Nat) : IntKind.u64.wrap (3 * (n : Int)) = (((3 * n) % 18446744073709551616 : Nat) : Int) := by
  unfold IntKind.wrap
  simp [IntKind.signed, IntKind.bits]
theorem row_pos {W : World} {base : Nat} {e : TypeId} {v : Value} {k : Nat} {xs : List Value} (h : W.ownsRow base e 1 v k xs) (hk : 0 < k) : ∃ g cap, v = .slice (some ⟨g, 0, none⟩) k cap := by
  rcases h.2 with ⟨_, h0⟩ | ⟨g, cap, _, rfl, _⟩
  · omega
  · exact ⟨g, cap, rfl⟩
theorem two_new (W : World) (t : TypeId) (a b : Value) (j : Nat) (u : Value) (h : [a, b][j]? = some u) : (W.alloc (.cells #[a, b] t)).cell? ((⟨W.heap.size, 0, none⟩ : Addr).add j) = some u := by
  have hn : (W.alloc (.cells #[a, b] t)).heap[W.heap.size]? = some (.cells #[a, b] t (0, 0)) := World.alloc_heap_new W _
  generalize W.alloc (.cells #[a, b] t) = V at *
  rcases j with _ | _ | j
  · simp at h; subst h; simp [World.cell?, Addr.add, hn]
  · simp at h; subst h; simp [World.cell?, Addr.add, hn]
  · simp at h
section
variable {w W W' : World} {s B : Nat} {c : Cst}
/-- the last key and 'not the first' are put -/
theorem ChkW.setLast (h : ChkW w s B c W) (k : ByteArray) :
    ChkW w s B { c with last := k, first := false } ((W.setCell ⟨B + 5, 0, none⟩ (.string k)).setCell ⟨B + 6, 0, none⟩ (.bool false)) ∧ KM (ChkE w.heap.size B) W ((W.setCell ⟨B + 5, 0, none⟩ (.string k)).setCell ⟨B + 6, 0, none⟩ (.bool false)) := by
  have hbg := h.big
  obtain ⟨D, hm, hs⟩ := h.seen
  obtain ⟨v, hv, hrow⟩ := h.sides
  obtain ⟨om, hom, hoc, _⟩ := seenMap_obj hm
  have hkeep : ∀ j, j ≠ B + 5 → j ≠ B + 6 → ((W.setCell ⟨B + 5, 0, none⟩ (.string k)).setCell ⟨B + 6, 0, none⟩ (.bool false)).heap[j]? = W.heap[j]? := fun j h1 h2 =>
    (Below.heap_setCell _ _ _ j h2).trans (Below.heap_setCell _ _ _ j h1)
  have hsz : ((W.setCell ⟨B + 5, 0, none⟩ (.string k)).setCell ⟨B + 6, 0, none⟩ (.bool false)).heap.size = W.heap.size := by simp
  have h11 : Boxed ((W.setCell ⟨B + 5, 0, none⟩ (.string k)).setCell ⟨B + 6, 0, none⟩ (.bool false)) (B + 5) 9 (.string k) := (Below.heap_setCell _ _ _ _ (by simp)).trans (h.b11.set (.string k))
  have h12 : Boxed ((W.setCell ⟨B + 5, 0, none⟩ (.string k)).setCell ⟨B + 6, 0, none⟩ (.bool false)) (B + 6) 4 (.bool false) := Boxed.set (.bool false) (show Boxed (W.setCell ⟨B + 5, 0, none⟩ (.string k)) (B + 6) 4 (.bool c.first) from (Below.heap_setCell _ _ _ _ (by simp)).trans h.b12)
  refine ⟨⟨(hkeep _ (by omega) (by omega)).trans h.b2, (hkeep _ (by omega) (by omega)).trans h.b4, (hkeep _ (by omega) (by omega)).trans h.b9, h11, h12, ⟨D, seenMap_same hm (hkeep _ (by omega) (by omega)), hs⟩, ⟨v, (hkeep _ (by omega) (by omega)).trans hv, hrow.1, ?_⟩, ?_, hbg⟩, ?_⟩
  · rcases hrow.2 with h5 | ⟨g, cap, cur, h5, h6, h7, h8⟩
    · exact .inl h5
    · have hne : ∀ (j : Nat) (t : TypeId) (u : Value), t ≠ 32 → Boxed W j t u → g ≠ j := by
        rintro j t u ht hb rfl
        have h9 := (show W.heap[g]? = _ from hb).symm.trans h7
        simp only [Option.some.injEq, Obj.cells.injEq] at h9
        exact ht h9.2.1
      exact .inr ⟨g, cap, cur, h5, h6, (hkeep g (hne _ _ _ (by decide) h.b11) (hne _ _ _ (by decide) h.b12)).trans h7, h8⟩
  · exact (h.below.setCell (p := ⟨B + 5, 0, none⟩) (by simp; omega) _).setCell (p := ⟨B + 6, 0, none⟩) (by simp; omega) _
  · refine ⟨⟨Nat.le_of_eq hsz.symm, fun j o hj _ hn => (hkeep j (fun e => hn (.inr (.inr (.inr (.inr (.inl e)))))) (fun e => hn (.inr (.inr (.inr (.inr (.inr (.inl e)))))))).trans hj⟩, fun j hj => .inl (chkE_cell (World.cell?_of_block (a := ⟨B + 4, 0, none⟩) (hkeep (B + 4) (by omega) (by omega))) j hj)⟩
/-- two sides more -/
theorem ChkW.sidesPut (h : ChkW w s B c W) {v v' : Value} {tmp : Obj} {w1 : World} {l r : Nat} (hv : Boxed W (B + 4) 49 v) (hrow : W.ownsRow (B + 2) 32 1 v c.sides.length (hsV c.sides))
    (hown' : w1.ownsRow (B + 2) 32 1 v' (c.sides.length + 2) (hsV c.sides ++ [.int .u64 (l : Nat), .int .u64 (r : Nat)])) (hgrow : (W.alloc tmp).grownBy w1 v.ownBlock) (hblk : v'.ownBlock = v.ownBlock ∨ v'.ownBlock = some (W.alloc tmp).heap.size) :
    Boxed w1 (B + 4) 49 v ∧ ChkW w s B { c with sides := c.sides ++ [l, r] } (w1.setCell ⟨B + 4, 0, none⟩ v') ∧ KM (ChkE w.heap.size B) W (w1.setCell ⟨B + 4, 0, none⟩ v') ∧ KeepsOthers W (w1.setCell ⟨B + 4, 0, none⟩ v') := by
  have hbg := h.big
  have hB2 : B + 2 ≤ W.heap.size := by have := hv.lt; omega
  obtain ⟨a1, a2, a3, a4, a5⟩ := hv.appended (by decide) hrow hB2 (by omega) hown' hgrow
  obtain ⟨D, hm, hs⟩ := h.seen
  obtain ⟨om, hom, hoc, _⟩ := seenMap_obj hm
  have hkeep : ∀ j, j < W.heap.size → j ≠ B + 4 → some j ≠ v.ownBlock → (w1.setCell ⟨B + 4, 0, none⟩ v').heap[j]? = W.heap[j]? := fun j h1 h2 h3 =>
    (Below.heap_setCell _ _ _ j h2).trans ((hgrow.block j (by simp; omega) h3).trans (Below.heap_alloc W tmp j h1))
  have hne : ∀ (j : Nat) (t : TypeId) (u : Value), t ≠ 32 → Boxed W j t u → some j ≠ v.ownBlock := fun j t u ht hb => hb.not_row ht hrow
  have hmp : some (B + 1) ≠ v.ownBlock := fun e => by have := (own_lt hrow e.symm).1; omega
  refine ⟨a1, ⟨(hkeep _ h.b2.lt (by omega) (hne _ _ _ (by decide) h.b2)).trans h.b2, (hkeep _ h.b4.lt (by omega) (hne _ _ _ (by decide) h.b4)).trans h.b4, (hkeep _ h.b9.lt (by omega) (hne _ _ _ (by decide) h.b9)).trans h.b9,
    (hkeep _ h.b11.lt (by omega) (hne _ _ _ (by decide) h.b11)).trans h.b11, (hkeep _ h.b12.lt (by omega) (hne _ _ _ (by decide) h.b12)).trans h.b12,
    ⟨D, seenMap_same hm (hkeep _ (Array.getElem?_eq_some_iff.1 hom).1 (by omega) hmp), hs⟩, ⟨v', a2, ?_⟩, h.below.trans (a5.mono (by omega)), hbg⟩, ⟨⟨a4.size, fun j o hj _ hn => ?_⟩, fun j hj => ?_⟩, a4⟩
  · have e1 : (c.sides ++ [l, r]).length = c.sides.length + 2 := by simp
    have e2 : hsV (c.sides ++ [l, r]) = hsV c.sides ++ [.int .u64 (l : Nat), .int .u64 (r : Nat)] := by simp [hsV]
    simp only [e1, e2]
    exact a3
  · refine (hkeep j (Array.getElem?_eq_some_iff.1 hj).1 (fun e => hn (.inr (.inr (.inr (.inr (.inr (.inr (.inl e)))))))) (fun e => ?_)).trans hj
    refine hn (.inr (.inr (.inr (.inr (.inr (.inr (.inr ?_)))))))
    rcases hrow.2 with ⟨rfl, _⟩ | ⟨g, cap, cur, rfl, _, _, _⟩
    · simp [Value.ownBlock] at e
    · have : j = g := by simpa [Value.ownBlock] using e
      subst this
      exact ⟨_, _, hv.cell⟩
  · rcases hj with h1 | h1 | h1 | h1 | h1 | h1 | h1 | ⟨m, cc, hc⟩
    · exact .inl (.inl h1)
    · exact .inl (.inr (.inl h1))
    · exact .inl (.inr (.inr (.inl h1)))
    · exact .inl (.inr (.inr (.inr (.inl h1))))
    · exact .inl (.inr (.inr (.inr (.inr (.inl h1)))))
    · exact .inl (.inr (.inr (.inr (.inr (.inr (.inl h1))))))
    · exact .inl (.inr (.inr (.inr (.inr (.inr (.inr (.inl h1)))))))
    · rw [a2.cell] at hc
      simp only [Option.some.injEq] at hc
      subst hc
      have hob : (Value.slice (some ⟨j, 0, none⟩) m cc).ownBlock = some j := by simp [Value.ownBlock]
      have hkl := (own_lt a3 hob).2
      rw [hob] at hblk
      rcases hblk with h1 | h1
      · rcases hrow.2 with ⟨rfl, _⟩ | ⟨g, cap, cur, rfl, _, _, _⟩
        · simp [Value.ownBlock] at h1
        · have : j = g := by simpa [Value.ownBlock] using h1
          subst this
          exact .inl (.inr (.inr (.inr (.inr (.inr (.inr (.inr ⟨_, _, hv.cell⟩)))))))
      · have : j = (W.alloc tmp).heap.size := by simpa using h1
        exact .inr ⟨by rw [this]; simp, hkl⟩
end
end Go.Proofs.YtjpmlneihbckpaaGreatDoor
/- walk.Check. -/
set_option linter.unusedVariables false
set_option linter.unusedSimpArgs false
namespace Go.Proofs.YtjpmlneihbckpaaGreatDoor
open Go.RowKit Go.Shelf
attribute [local go_sem] Oper.semAt_some wide_fn
section
variable {w w' : World} {s N : Nat} {R : Nat → Option (List Nat)} {n : Nat}
set_option maxHeartbeats 4000000 in
set_option maxRecDepth 100000 in
theorem check_at (h : Rd N w s R n) (hsh : Short R) (x : Nat) (hx : x < 18446744073709551616) :
    Calls Tryz.prog 54 #[.pointer (some ⟨s, 0, none⟩), .int .u64 (x : Nat)] w fun e w' => e = .returned (.int .i64 (checkR R n x : Nat)) ∧ Below w.heap.size w w' := by
  obtain ⟨i0, hi, hz0, hz1, hz2⟩ := info_parts Tryz.info_h
  refine (callsIn_wide (n := 9)).1 ?_
  have hIn := Lib.hid (fun w => (callsIn_wide (n := 8)).2 (in_calls s x w))
  have HH := Lib.hid h.here
  have hLl := inR_len R n x
  have hn := h.le
  obtain ⟨L, hL⟩ : ∃ L, L = inR R n x := ⟨_, rfl⟩
  obtain ⟨C, hC⟩ : ∃ C, C = checkR R n x := ⟨_, rfl⟩
  have hC2 := hC
  unfold checkR at hC2
  rw [← hL] at hLl hC2
  rw [← hC]
  have hLH := Lib.hid hL
  have hLl2 : L.length ≤ 40000 := by omega
  have hLen := Lib.hid (fun w' (hb : Below w.heap.size w w') => (callsIn_wide (n := 8)).2 (rlen_at (h.below hb) 0 (by decide)))
  obtain ⟨la, lb, hlr, hl1⟩ := lenR_form R 0
  rw [hlr] at hLen
  have dl : ((lb : Int) == 1) = false := by simp; omega
  obtain ⟨nx, hnx⟩ : ∃ nx, nodeG R x = nx := ⟨_, rfl⟩
  obtain ⟨zx, hzx⟩ : ∃ zx, nodeE R x = zx := ⟨_, rfl⟩
  have hzx1 : zx < 10 := hzx ▸ nodeE_lt R x
  have hGx := Lib.hid (fun w' (hb : Below w.heap.size w w') => (callsIn_wide (n := 8)).2 (nget_lit (h.below hb) x hx nx hnx zx hzx))
  rw [hzx, hnx] at hC2
  have hC2H := Lib.hid hC2
  have hshH := Lib.hid hsh
  have hb0 : Below w.heap.size w ((w.alloc (Obj.cells #[Value.pointer (some ⟨s, 0, none⟩)] 25)).alloc (Obj.cells #[Value.int IntKind.i64 0] 26)) := ((Below.refl _ w).alloc (Nat.le_refl _) _).alloc (by simp) _
  have hq1 : Boxed ((w.alloc (Obj.cells #[Value.pointer (some ⟨s, 0, none⟩)] 25)).alloc (Obj.cells #[Value.int IntKind.i64 0] 26)) w.heap.size 25 (.pointer (some ⟨s, 0, none⟩)) := (Boxed.new w _ _).alloc _
  have hq2 : Boxed ((w.alloc (Obj.cells #[Value.pointer (some ⟨s, 0, none⟩)] 25)).alloc (Obj.cells #[Value.int IntKind.i64 0] 26)) (w.heap.size + 1) 26 (.int .i64 0) := by
    have := Boxed.new (w.alloc (Obj.cells #[Value.pointer (some ⟨s, 0, none⟩)] 25)) 26 (.int .i64 0)
    rwa [show (w.alloc (Obj.cells #[Value.pointer (some ⟨s, 0, none⟩)] 25)).heap.size = w.heap.size + 1 by simp] at this
  clear h hL hLl hC hC2 hn hlr hl1 hnx hzx hsh
  refine callsIn_of_wp_marks Tryz.func54 rfl trivial ?_ rfl
  simp only [Tryz.ntmps54, List.size_toArray, List.length_cons, List.length_nil, Nat.reduceAdd, Nat.reduceSub, Array.replicate_succ, Array.replicate_zero, List.push_toArray, List.append_toArray, List.nil_append, List.cons_append]
  gi_wp2_with fail
  refine (hLen.out _ hb0).mono ?_
  generalize ((w.alloc (Obj.cells #[Value.pointer (some ⟨s, 0, none⟩)] 25)).alloc (Obj.cells #[Value.int IntKind.i64 0] 26)) = W0 at *
  rintro e w' ⟨rfl, rfl⟩
  have hr1 := hq1.cell
  have hr2 := hq2.cell
  have hf2 := hq2.frozen
  by_cases hx0 : x = 0
  · subst hx0
    rw [if_pos rfl] at hC2H
    gi_wp2
    have hq3 := (hq2.set (.int .i64 0)).cell
    refine ⟨.int .i64 0, ?_, by rw [hC2H.out]; rfl, hb0.setCell (p := ⟨w.heap.size + 1, 0, none⟩) (by simp) _⟩
    simp [results, Tryz.f54, go_sem, hq3]
  · have dx : ((x : Int) == 0) = false := by simp; omega
    rw [if_neg hx0] at hC2H
    gi_wp2_with fail
    refine (hGx.out _ hb0).mono ?_
    rintro e w1 ⟨rfl, hb1⟩
    have hbw1 := hb0.trans (hb1.mono hb0.size)
    have hzz := hbw1.size
    have hu1 : Boxed w1 w.heap.size 25 (.pointer (some ⟨s, 0, none⟩)) := (hb1.block _ hq1.lt).trans hq1
    have hu2 : Boxed w1 (w.heap.size + 1) 26 (.int .i64 0) := (hb1.block _ hq2.lt).trans hq2
    have hu1' := hu1.cell
    have hu2' := hu2.cell
    have hu2f := hu2.frozen
    have hlt1 : w.heap.size + 1 < w1.heap.size := hu2.lt
    have hltA : w.heap.size < w1.heap.size := by omega
    have hltA1 : w.heap.size < w1.heap.size + 1 := by omega
    have hltA2 : w.heap.size < w1.heap.size + 1 + 1 := by omega
    have hltA3 : w.heap.size < w1.heap.size + 1 + 1 + 1 := by omega
    have hltA4 : w.heap.size < w1.heap.size + 1 + 1 + 1 + 1 := by omega
    have hltA5 : w.heap.size < w1.heap.size + 1 + 1 + 1 + 1 + 1 := by omega
    have hltA6 : w.heap.size < w1.heap.size + 1 + 1 + 1 + 1 + 1 + 1 := by omega
    by_cases hz0 : zx = 0
    · subst hz0
      rw [if_neg (by simp)] at hC2H
      have hmk := fun w => run_makeMap (P := Tryz.prog) 148 w
      gi_wp2_with fail
      obtain ⟨hck, hck4⟩ := chk_start (x := x) nx hbw1 hu1 hu2
      have hsz5 : (((((((w1.alloc (Obj.cells #[Value.int IntKind.u64 (nx.key : Nat), Value.int IntKind.u64 (nx.val : Nat), Value.int IntKind.u64 (nx.left : Nat), Value.int IntKind.u64 (nx.right : Nat), Value.int IntKind.u64 (nx.mark : Nat), Value.int IntKind.u64 (nx.size : Nat)] 53)).alloc (Obj.map #[] 0)).alloc (Obj.cells #[Value.int IntKind.u64 (x : Nat)] 32)).alloc (Obj.cells #[Value.map (some (w1.heap.size + 1))] 148)).alloc (Obj.cells #[Value.slice (some { block := w1.heap.size + 1 + 1, off := 0 }) 1 1] 49)).alloc (Obj.cells #[Value.string ⟨#[]⟩] 9)).alloc (Obj.cells #[Value.bool true] 4)).heap.size = w1.heap.size + 7 := by simp
      generalize (((((((w1.alloc (Obj.cells #[Value.int IntKind.u64 (nx.key : Nat), Value.int IntKind.u64 (nx.val : Nat), Value.int IntKind.u64 (nx.left : Nat), Value.int IntKind.u64 (nx.right : Nat), Value.int IntKind.u64 (nx.mark : Nat), Value.int IntKind.u64 (nx.size : Nat)] 53)).alloc (Obj.map #[] 0)).alloc (Obj.cells #[Value.int IntKind.u64 (x : Nat)] 32)).alloc (Obj.cells #[Value.map (some (w1.heap.size + 1))] 148)).alloc (Obj.cells #[Value.slice (some { block := w1.heap.size + 1 + 1, off := 0 }) 1 1] 49)).alloc (Obj.cells #[Value.string ⟨#[]⟩] 9)).alloc (Obj.cells #[Value.bool true] 4)) = W5 at *
      refine (hIn.out _).mono ?_
      rintro e w2 ⟨rfl, hW2⟩
      generalize hB : w1.heap.size = B at *
      rw [hsz5]
      have hx1 : w2.cell? ⟨B + 7, 0, none⟩ = some (.pointer (some ⟨s, 0, none⟩)) := by
        rw [hW2, ← hsz5]
        exact ((Boxed.new W5 25 (.pointer (some ⟨s, 0, none⟩))).alloc _).cell
      have hx2 : Boxed w2 (B + 7 + 1) 32 (.int .u64 (x : Nat)) := by
        have := Boxed.new (W5.alloc (Obj.cells #[Value.pointer (some ⟨s, 0, none⟩)] 25)) 32 (.int .u64 (x : Nat))
        rw [show (W5.alloc (Obj.cells #[Value.pointer (some ⟨s, 0, none⟩)] 25)).heap.size = B + 7 + 1 by simp [hsz5]] at this
        rw [hW2]; exact this
      have hbe : Below W5.heap.size W5 w2 := by rw [hW2]; exact ((Below.refl _ W5).alloc (Nat.le_refl _) _).alloc (by simp) _
      have hc2 := hck.below' hbe
      have hc4 := (hbe.block _ hck4.lt).trans hck4
      have hz2' : B + 9 ≤ w2.heap.size := by rw [hW2]; simp [hsz5]
      have HH2 := Lib.hid (HH.out.below hc2.below)
      clear hW2 hIn hbe hck hck4 hsz5 hmk hu1' hu2' hu2f hu1 hu2 hb1 hr1 hr2 hf2 hq1 hq2 hb0 hbw1 hzz hlt1 hltA hltA1 hltA2 hltA3 hltA4 hltA5 hltA6 hLen
      gi_wp2_with fail
      refine wpIn_rangeFunc_mv (α := {y : Nat // y ∈ L}) rfl (by omega) (gf := 95) (lb := #[.pointer (some ⟨B + 7, 0, none⟩), .pointer (some ⟨B + 7 + 1, 0, none⟩)]) rfl trivial (enters_of Tryz.func95 (by kernel_rfl) rfl)
        (in_stops HH2.out hLH.out hx1 hx2 (by have := hc2.big; omega) (by omega) hx (ChkE w.heap.size B) (chkE_req (by omega)) (fun k hk => by
          have hbg := hc2.big
          rcases hk with h | h | h | h | h | h | h | ⟨m, cc, h⟩
          all_goals try omega
          rw [Boxed.cell hc4] at h
          simp only [Option.some.injEq, Value.slice.injEq, Addr.mk.injEq] at h
          omega))
        (fun A B hm k o hk ho => hm.keep k o hk (.inr (.inr ho)))
        (fun h k => h.trans k) (fun W l o o' hl' hl h1 h2 => ⟨KB.putObj o' hl h1 h2, fun k hk => .inl (chkE_cell (World.cell?_of_block (a := ⟨B + 4, 0, none⟩) (World.putObj_heap_other (by simp; omega))) k hk)⟩) (Below.refl _ _) (fun _ => rfl)
        (fun pre W => ∃ c, chkL R x (pre.map (fun (z : {y : Nat // y ∈ L}) => z.1)) = some c ∧ ChkW w s B c W)
        (fun cd pre W => cd = .ret ∧ chkL R x (pre.map (fun (z : {y : Nat // y ∈ L}) => z.1)) = none ∧ Boxed W (w.heap.size + 1) 26 (.int .i64 8) ∧ Below w.heap.size w W)
        (chk_own w s B _ (fun pre : List {y : Nat // y ∈ L} => chkL R x (pre.map (fun (z : {y : Nat // y ∈ L}) => z.1))) (by omega) hc2.big)
        (fun cd a X Y row hs hg hr => by
          obtain ⟨h1, h2, h3, h4⟩ := hs
          have := hc2.big
          exact ⟨h1, h2, h3.kept hg (fun e => by obtain ⟨q, _⟩ := hr _ e.symm; omega), ownFrom_below (β := List {y : Nat // y ∈ L}) (Nat.le_refl _) (by omega) a X Y row h4 hg hr⟩)
        (fun a X Y hs hm => by
          obtain ⟨c, h1, h2⟩ := hs
          exact ⟨c, h1, h2.mv hm⟩)
        (fun cd a X Y hs hm => by
          obtain ⟨h1, h2, h3, h4⟩ := hs
          exact ⟨h1, h2, hm.keep _ _ h3 (.inr (.inl (.inr (.inl rfl)))), h4.trans (hm.to_below (Nat.le_refl _) h4.size)⟩)
        ⟨_, rfl, hc2⟩
        (fun z a' W => ∃ nb nd, nodeG R z.1 = nd ∧ NdBox W nb nd ∧ a' = { tmps := #[Value.pointer (some { block := s, off := 0 }), Value.int IntKind.u64 ↑x, Value.pointer (some { block := w.heap.size, off := 0 }), undef, Value.pointer (some { block := w.heap.size + 1, off := 0 }), Value.int IntKind.i64 ↑la, Value.int IntKind.i64 ↑lb, Value.pointer (some { block := B, off := 0 }), Value.int IntKind.i64 0, Value.pointer (some { block := B + 1 + 1 + 1, off := 0 }), Value.pointer (some { block := B + 1 + 1 + 1 + 1, off := 0 }), Value.pointer (some { block := B + 1 + 1 + 1 + 1 + 1, off := 0 }), Value.pointer (some { block := B + 1 + 1 + 1 + 1 + 1 + 1, off := 0 }), Value.int IntKind.u64 ↑z.1, Value.pointer (some { block := nb, off := 0 }), undef, undef, undef, undef, undef, undef, undef, undef, Value.tuple #[Value.int IntKind.i64 ↑la, Value.int IntKind.i64 ↑lb], Value.pointer (some { block := s, off := 0 }), Value.tuple #[Value.int IntKind.i64 ↑la, Value.int IntKind.i64 ↑lb], Value.int IntKind.i64 ↑la, Value.int IntKind.i64 ↑lb, Value.int IntKind.i64 ↑lb, Value.bool false, Value.int IntKind.u64 ↑x, Value.bool false, Value.tuple #[Value.agg #[Value.int IntKind.u64 ↑nx.key, Value.int IntKind.u64 ↑nx.val, Value.int IntKind.u64 ↑nx.left, Value.int IntKind.u64 ↑nx.right, Value.int IntKind.u64 ↑nx.mark, Value.int IntKind.u64 ↑nx.size], Value.int IntKind.i64 0], Value.pointer (some { block := s, off := 0 }), Value.int IntKind.u64 ↑x, Value.tuple #[Value.agg #[Value.int IntKind.u64 ↑nx.key, Value.int IntKind.u64 ↑nx.val, Value.int IntKind.u64 ↑nx.left, Value.int IntKind.u64 ↑nx.right, Value.int IntKind.u64 ↑nx.mark, Value.int IntKind.u64 ↑nx.size], Value.int IntKind.i64 0], Value.agg #[Value.int IntKind.u64 ↑nx.key, Value.int IntKind.u64 ↑nx.val, Value.int IntKind.u64 ↑nx.left, Value.int IntKind.u64 ↑nx.right, Value.int IntKind.u64 ↑nx.mark, Value.int IntKind.u64 ↑nx.size], Value.int IntKind.i64 0, Value.int IntKind.i64 0, Value.bool false, Value.map (some (B + 1)), Value.int IntKind.u64 ↑x, Value.slice (some { block := B + 1 + 1, off := 0 }) 1 1, Value.pointer (some { block := s, off := 0 }), Value.int IntKind.u64 ↑x, Value.func (Fn.func 95) #[] #[Value.pointer (some { block := B + 7, off := 0 }), Value.pointer (some { block := B + 7 + 1, off := 0 })], Value.int IntKind.u64 ↑z.1, Value.agg #[Value.int IntKind.u64 ↑nd.key, Value.int IntKind.u64 ↑nd.val, Value.int IntKind.u64 ↑nd.left, Value.int IntKind.u64 ↑nd.right, Value.int IntKind.u64 ↑nd.mark, Value.int IntKind.u64 ↑nd.size], undef, undef, undef, undef, undef, undef, undef, undef, undef, undef, undef, undef, undef, undef, undef, undef, undef, undef, undef, undef, undef, undef, undef, undef, undef, undef, undef, undef, undef, undef, undef, undef, undef, undef, undef, undef, undef, undef, undef, undef, undef, undef, undef, undef, undef, undef, undef, undef, undef, undef, undef, undef, undef, undef, undef, undef, undef, undef, undef, undef, undef, undef, undef, undef, undef, undef, undef, undef, undef, undef, undef, undef, undef, undef, undef, undef, undef, undef, undef, undef], defers := [] })
        (fun z a' s A B row hs hg hr => by
          obtain ⟨nb, nd, h1, h2, h3⟩ := hs
          exact ⟨nb, nd, h1, h2.kept hg hr, h3⟩)
        ?assign ?body ?done ?stop
      case assign =>
        rintro l pre ⟨y, hy⟩ W K hi hK
        dsimp only at hK ⊢
        obtain ⟨nd, hnd⟩ : ∃ nd, nodeG R y = nd := ⟨_, rfl⟩
        rw [hnd]
        obtain ⟨c, hc, hcw⟩ := hi
        have hb : Below W.heap.size W (W.alloc (Obj.cells #[Value.int IntKind.u64 (nd.key : Nat), Value.int IntKind.u64 (nd.val : Nat), Value.int IntKind.u64 (nd.left : Nat), Value.int IntKind.u64 (nd.right : Nat), Value.int IntKind.u64 (nd.mark : Nat), Value.int IntKind.u64 (nd.size : Nat)] 53)) := (Below.refl _ W).alloc (Nat.le_refl _) _
        have hK2 := Lib.hid (hK _ (W.alloc (Obj.cells #[Value.int IntKind.u64 (nd.key : Nat), Value.int IntKind.u64 (nd.val : Nat), Value.int IntKind.u64 (nd.left : Nat), Value.int IntKind.u64 (nd.right : Nat), Value.int IntKind.u64 (nd.mark : Nat), Value.int IntKind.u64 (nd.size : Nat)] 53)) ((keepsOthers_below hb).from _) (hcw.km_below hb) ⟨c, hc, hcw.below' hb⟩ ⟨W.heap.size, nd, hnd, ndBox_new W nd, rfl⟩)
        clear hK hc hcw hb
        unfold Nd.v
        gi_wp2
        exact hK2.out
      case body =>
        rintro l pre ⟨y, hy⟩ a' W hl ⟨r, hr⟩ hi ⟨nb, nd, hnd, hbx, rfl⟩ hlen
        dsimp only at hnd ⊢
        obtain ⟨c, hc, hcw⟩ := hi
        obtain ⟨pe, hpe⟩ : ∃ pe, pairE R y = pe := ⟨_, rfl⟩
        obtain ⟨pk, hpk⟩ : ∃ pk, (pairP R y).1 = pk := ⟨_, rfl⟩
        obtain ⟨pv, hpv⟩ : ∃ pv, (pairP R y).2 = pv := ⟨_, rfl⟩
        obtain ⟨fb, hfb⟩ : ∃ fb, fitsR R nd = fb := ⟨_, rfl⟩
        have hy64 : y < 18446744073709551616 := inR_lt (fun z => HH.out.nodeG z) hx y (hLH.out ▸ hy)
        have hpe10 : pe < 10 := hpe ▸ pairE_lt R y
        have hWs : B + 9 ≤ W.heap.size := by have := (Array.getElem?_eq_some_iff.1 hr).1; omega
        have hSc : c.S.length ≤ 120000 := by have := (chkL_len hc).1; rw [List.length_map] at this; omega
        have hSd : c.sides.length ≤ 100000 := by have := (chkL_len hc).2; rw [List.length_map] at this; omega
        have hok : Hid nd.Ok := Lib.hid (hnd ▸ (HH.out.below hcw.below).nodeG y)
        have hP := Lib.hid (fun W' (hb : Below w.heap.size w W') => CallsIn.inRound l ((callsIn_wide (n := 6)).2 (pair_at (HH.out.below hb) hshH.out y hy64)))
        unfold prV at hP
        rw [hpe, hpk, hpv] at hP
        have hF := Lib.hid (fun W' (hb : Below w.heap.size w W') => CallsIn.inRound l ((callsIn_wide (n := 6)).2 (fits_at (HH.out.below hb) nd hok.out)))
        rw [hfb] at hF
        have hCm := Lib.hid (fun (a b : ByteArray) W => CallsIn.inRound l ((callsIn_wide (n := 6)).2 (Tx.cmp_call a b W)))
        have hstep : Hid (∀ c : Cst, c.bad R y = (pe != 0 || ((!c.first && decide (0 ≤ Tx.cmp c.last pk)) || !fb))) := Lib.hid (fun c => by unfold Cst.bad; rw [hpe, hpk, hnd, hfb])
        have hst2 : Hid (∀ c : Cst, c.bad R y = false → c.step R y = (chk3 c.S [y, nd.key, nd.val]).map fun S' => ⟨S', pk, false, c.sides ++ [nd.left, nd.right]⟩) := Lib.hid (fun c h => by unfold Cst.step; rw [if_neg (by simp [h]), hnd, hpk])
        have hst1 : Hid (∀ c : Cst, c.bad R y = true → c.step R y = none) := Lib.hid (fun c h => by unfold Cst.step; rw [if_pos h])
        have hsn : Hid (chkL R x ((pre ++ [(⟨y, hy⟩ : {y : Nat // y ∈ L})]).map (fun (z : {y : Nat // y ∈ L}) => z.1)) = c.step R y) := Lib.hid (by rw [List.map_append, List.map_cons, List.map_nil, chkL_snoc, hc]; rfl)
        have hcwH := Lib.hid hcw
        have hbxH := Lib.hid hbx
        have q2 := hcw.b2.cell
        have hbw := Lib.hid hcw.below
        clear hpe hpk hpv hfb hnd hcw hbx hc
        gi_wp2_with fail
        refine (hP.out _ hbw.out).mono ?_
        rintro e W1 ⟨rfl, hb1⟩
        have hzz := hb1.size
        have hb2 : Below W.heap.size W (W1.alloc (Obj.cells #[Value.string pk, Value.string pv] 46)) := hb1.alloc hzz _
        have hcw2 := Lib.hid (hcwH.out.below' hb2)
        have hbx2 := Lib.hid (hbxH.out.below hb2)
        have hkm2 := Lib.hid (hcwH.out.km_below hb2)
        have hpb : (W1.alloc (Obj.cells #[Value.string pk, Value.string pv] 46)).cell? ⟨W1.heap.size, 0, none⟩ = some (.string pk) := by go_simp
        have hkf2 := Lib.hid ((keepsOthers_below hb2).from w2.heap.size)
        have p2 := hcw2.out.b2.cell
        have p4 := hcw2.out.b4.cell
        have p4f := hcw2.out.b4.frozen
        have p11 := hcw2.out.b11.cell
        have p12 := hcw2.out.b12.cell
        clear hb1 hb2 hP q2
        obtain ⟨n0, n1, n2, n3, n4, n5⟩ := hbx2.out.cells
        by_cases hpe0 : pe = 0
        · subst hpe0
          cases hfst : c.first with
          | true =>
            rw [hfst] at p12
            have hF2 := Lib.hid (hF.out _ hcw2.out.below)
            gi_wp2_with fail
            refine hF2.out.mono ?_
            generalize (W1.alloc (Obj.cells #[Value.string pk, Value.string pv] 46)) = W2 at *
            rintro e W4 ⟨rfl, hb4⟩
            have hcw4 := Lib.hid (hcw2.out.below' hb4)
            have hbx4 := Lib.hid (hbx2.out.below hb4)
            have hkm4 := Lib.hid (hkm2.out.trans (hcw2.out.km_below hb4))
            have hkf4 := Lib.hid (hkf2.out.trans ((keepsOthers_below hb4).from w2.heap.size))
            have hpb4 := (hb4.cell (p := ⟨W1.heap.size, 0, none⟩) (cell_lt hpb)).trans hpb
            have r2 := hcw4.out.b2.cell
            have r4 := hcw4.out.b4.cell
            have r4f := hcw4.out.b4.frozen
            clear hb4 p2 p4 p4f p11 p12 n0 n1 n2 n3 n4 n5 hpb
            cases fb with
            | false =>
              have hbad := Lib.hid (hst1.out c (by rw [hstep.out]; simp))
              have hbk := chk_bad hcw4.out hkf4.out
              gi_wp2
              exact ⟨hbk.1, rfl, hsn.out.trans hbad.out, hbk.2.1, hbk.2.2⟩
            | true =>
              have e3 := Lib.hid (three_index y nd.key nd.val)
              have hl3 : Hid (∀ k, ([y, nd.key, nd.val][k]?).getD 0 < 18446744073709551616) := Lib.hid (three_lt hy64 hok.out.key hok.out.val)
              have hbad0 : Hid (c.bad R y = false) := Lib.hid (by rw [hstep.out]; simp [hfst])
              have hpB : B + 9 ≤ W1.heap.size := by omega
              obtain ⟨m0, m1, m2, m3, m4, m5⟩ := hbx4.out.cells
              clear hcw2 hbx2 hkm2 hkf2 hF hF2 hCm hstep r4 r4f
              gi_wp2_with fail
              gi_loopw [79] (fun iv wr => ∃ (k : Nat) (S' : List Nat), k ≤ 3 ∧ iv = .int .i64 k ∧ Hid (chk3 c.S ([y, nd.key, nd.val].take k) = some S') ∧ Hid (ChkW w s B { c with S := S' } wr) ∧ Hid (NdBox wr nb nd) ∧ wr.cell? ⟨W1.heap.size, 0, none⟩ = some (.string pk) ∧ Hid (KM (ChkE w.heap.size B) W wr) ∧ Hid (KeepsFrom w2.heap.size W wr)) (fun iv _ => 3 - (intOf iv).toNat)
              case atStart => exact ⟨0, c.S, by omega, rfl, Lib.hid rfl, hcw4, hbx4, hpb4, hkm4, hkf4⟩
              case round =>
                obtain ⟨k, S', hk, rfl, hc3, hcr, hbr, hpr, hkr, hfr⟩ := hrel
                have u9 := hcr.out.b9.cell
                have u4 := hcr.out.b4.cell
                have u4f := hcr.out.b4.frozen
                obtain ⟨D, hmap, hsee⟩ := hcr.out.seen
                have hS3 := chk3_len _ _ _ hc3.out
                have hS4 : S'.length ≤ c.S.length + 3 := by rw [hS3]; simp; omega
                by_cases hlt : k < 3
                · have hi3 := fun W => e3.out k hlt W
                  have hz64 := hl3.out k
                  have htk : Hid (chk3 c.S ([y, nd.key, nd.val].take (k + 1)) = if ([y, nd.key, nd.val][k]?).getD 0 ∈ S' then none else some (S' ++ [([y, nd.key, nd.val][k]?).getD 0])) := Lib.hid (by
                    have hkl : k < [y, nd.key, nd.val].length := hlt
                    rw [List.take_add_one, List.getElem?_eq_getElem hkl, Option.toList_some, chk3_snoc, hc3.out]
                    rfl)
                  generalize hzz9 : ([y, nd.key, nd.val][k]?).getD 0 = z at *
                  have hat0 := hsee.at' z
                  have hmapH := Lib.hid hmap
                  have hseeH := Lib.hid hsee
                  clear hmap hsee
                  have hlk := seen_look hmapH.out hz64 hat0
                  have hSl : S'.length ≤ 1000000 := by omega
                  by_cases hz : z ∈ S'
                  · rw [if_pos hz] at hlk htk
                    gi_wp2_with (gi_at_mapUpdate; refine wpListIn_mapUpdate_own _ rfl _ _ _ 148 rfl 32 3 keyedH Tryz.underlying148 _ (B + 1) _ D rfl hmapH.out (by unfold maxLen; simp only; omega) _ _ (.int .u64 (z : Nat)) rfl rfl (keyH hz64) (.lit (.int .i64 2)) [] (plain_int (by omega) (by omega)) ?_; intro w6 hown6 hgrow6; obtain ⟨s1, s2, s3, s4, s5⟩ := hcr.out.seeTurn hgrow6; have hlk2 := seen_look hown6 hz64 (seen_put_at hseeH.out.tidy.isMap z 2); have v9 := (hcr.out.b9.kept hgrow6 (fun e => by simp only [Option.some.injEq] at e; omega)).cell; have v4 := s5.cell; have v4f := s5.frozen)
                    have hbad : Hid (c.step R y = none) := Lib.hid (by
                      rw [hst2.out c hbad0.out]
                      have := chk3_none _ ([y, nd.key, nd.val].drop (k + 1)) _ htk.out
                      rw [List.take_append_drop] at this
                      rw [this]; rfl)
                    have hkf := hfr.out.trans ((s2.mono (show B + 7 ≤ w2.heap.size by omega)).trans ((KeepsOthers.setCell w6 ⟨w.heap.size + 1, 0, none⟩ (.int .i64 8)).from w2.heap.size))
                    exact ⟨hkf, rfl, hsn.out.trans hbad.out, s5.set _, s3.setCell (p := ⟨w.heap.size + 1, 0, none⟩) (by simp) _⟩
                  · rw [if_neg hz] at hlk htk
                    gi_wp2_with (gi_at_mapUpdate; refine wpListIn_mapUpdate_own _ rfl _ _ _ 148 rfl 32 3 keyedH Tryz.underlying148 _ (B + 1) _ D rfl hmapH.out (by unfold maxLen; simp only; omega) _ _ (.int .u64 (z : Nat)) rfl rfl (keyH hz64) (.lit (.int .i64 1)) [] (plain_int (by omega) (by omega)) ?_; intro w6 hown6 hgrow6; obtain ⟨s1, s2, s3, s4, s5⟩ := hcr.out.seeTurn hgrow6; have hc6 := Lib.hid (hcr.out.see hgrow6 hseeH.out hz hown6); have hlk2 := seen_look hown6 hz64 (seen_put_at hseeH.out.tidy.isMap z 1); have v9 := hc6.out.b9.cell)
                    have hbr6 : Hid (NdBox w6 nb nd) := Lib.hid ((hgrow6.block nb (Array.getElem?_eq_some_iff.1 hbr.out).1 (fun e => hcr.out.not_nd hbr.out (by simp only [Option.some.injEq] at e; exact .inr (.inr (.inl e))))).trans hbr.out)
                    have hp6 : w6.cell? ⟨W1.heap.size, 0, none⟩ = some (.string pk) := (World.cell?_of_block (a := ⟨W1.heap.size, 0, none⟩) (hgrow6.block W1.heap.size (cell_lt hpr) (fun e => by simp only [Option.some.injEq] at e; omega))).trans hpr
                    have hk6 := Lib.hid (hkr.out.trans s1)
                    have hf6 := Lib.hid (hfr.out.trans (s2.mono (show B + 7 ≤ w2.heap.size by omega)))
                    go_roundw
                    case rel => exact ⟨k + 1, S' ++ [z], by omega, by go_num, htk, hc6, hbr6, hp6, hk6, hf6⟩
                    case measure => simp [intOf]; omega
                · obtain rfl : k = 3 := by omega
                  have hfin : Hid (chkL R x ((pre ++ [(⟨y, hy⟩ : {y : Nat // y ∈ L})]).map (fun (z : {y : Nat // y ∈ L}) => z.1)) = some ⟨S', pk, false, c.sides ++ [nd.left, nd.right]⟩) := Lib.hid (by
                    have h9 := hc3.out
                    rw [show [y, nd.key, nd.val].take 3 = [y, nd.key, nd.val] from rfl] at h9
                    rw [hsn.out, hst2.out c hbad0.out, h9]
                    rfl)
                  obtain ⟨hcL, hkL⟩ := hcr.out.setLast pk
                  have v11 := hcr.out.b11.cell
                  have v11f := hcr.out.b11.frozen
                  have v12 := hcr.out.b12.cell
                  have v12f := hcr.out.b12.frozen
                  have hbrL : NdBox ((wr.setCell ⟨B + 5, 0, none⟩ (.string pk)).setCell ⟨B + 6, 0, none⟩ (.bool false)) nb nd := (hkL.kb.same _ _ hbr.out (.inl rfl) (hcr.out.not_nd hbr.out))
                  obtain ⟨g0, g1, g2, g3, g4, g5⟩ := hbrL.cells
                  obtain ⟨v, hv, hrow⟩ := hcL.sides
                  have c10 := hv.cell
                  have hsdl : c.sides.length ≤ 100000 := by omega
                  have hcLH := Lib.hid hcL
                  have hkLH := Lib.hid (hkr.out.trans hkL)
                  have hfLH := Lib.hid (hfr.out.trans ((((KeepsOthers.setCell wr ⟨B + 5, 0, none⟩ (.string pk)).trans (KeepsOthers.setCell _ ⟨B + 6, 0, none⟩ (.bool false)))).from w2.heap.size))
                  have hvH := Lib.hid hv
                  have hrowH := Lib.hid hrow
                  have hB2 : B + 2 ≤ wr.heap.size := by have := hcr.out.b9.lt; omega
                  clear hcL hkL hv hrow hbrL hmap hsee
                  gi_wp2_with (gi_at_builtin; go_must (refine wpListIn_append_own_at _ rfl _ _ 49 rfl (B + 2) 32 i0 (.int .u64 0) 1 8 Tryz.under_hs hi hz0 hz1 hz2 rfl (by decide) _ _ _ rfl (hrowH.out.alloc _) ⟨wr.heap.size, 0, none⟩ 2 2 [.int .u64 (nd.left : Nat), .int .u64 (nd.right : Nat)] rfl rfl (by have h9 := two_new ((wr.setCell ⟨B + 5, 0, none⟩ (.string pk)).setCell ⟨B + 6, 0, none⟩ (.bool false)) 32 (.int .u64 (nd.left : Nat)) (.int .u64 (nd.right : Nat)); rw [show ((wr.setCell ⟨B + 5, 0, none⟩ (.string pk)).setCell ⟨B + 6, 0, none⟩ (.bool false)).heap.size = wr.heap.size by simp] at h9; exact h9) (by simp [Value.oneCell']) (by unfold maxLen; simp only; omega) (by simp only; omega) (by simp; omega) ?_; intro v' w7 hown' hgrow _ hblk; obtain ⟨b1, b2, b3, b4⟩ := hcLH.out.sidesPut hvH.out hrowH.out (by simpa using hown') hgrow hblk; obtain ⟨g', cap', rfl⟩ := ownsRow_succ (k := c.sides.length + 1) (by simpa using hown'); have z4 := b1.cell; have z4f := b1.frozen))
                  exact ⟨hfLH.out.trans (b4.from _), hkLH.out.trans b3, ⟨_, hfin.out, b2⟩⟩
          | false =>
            rw [hfst] at p12
            obtain ⟨q, hq⟩ : ∃ q, Tx.cmp c.last pk = q := ⟨_, rfl⟩
            have hCm2 := Lib.hid (hCm.out c.last pk (W1.alloc (Obj.cells #[Value.string pk, Value.string pv] 46)))
            rw [hq] at hCm2
            have hF2 := Lib.hid (hF.out _ hcw2.out.below)
            gi_wp2_with fail
            refine hCm2.out.mono ?_
            generalize (W1.alloc (Obj.cells #[Value.string pk, Value.string pv] 46)) = W2 at *
            rintro e W3 ⟨rfl, rfl⟩
            by_cases hq0 : 0 ≤ q
            · have dq : decide (0 ≤ q) = true := by simpa using hq0
              have hbad := Lib.hid (hst1.out c (by rw [hstep.out, hfst, hq]; simp [hq0]))
              have hbk := chk_bad hcw2.out hkf2.out
              gi_wp2
              exact ⟨hbk.1, rfl, hsn.out.trans hbad.out, hbk.2.1, hbk.2.2⟩
            · have dq : decide (0 ≤ q) = false := by simpa using hq0
              gi_wp2_with fail
              refine hF2.out.mono ?_
              rintro e W4 ⟨rfl, hb4⟩
              have hcw4 := Lib.hid (hcw2.out.below' hb4)
              have hbx4 := Lib.hid (hbx2.out.below hb4)
              have hkm4 := Lib.hid (hkm2.out.trans (hcw2.out.km_below hb4))
              have hkf4 := Lib.hid (hkf2.out.trans ((keepsOthers_below hb4).from w2.heap.size))
              have hpb4 := (hb4.cell (p := ⟨W1.heap.size, 0, none⟩) (cell_lt hpb)).trans hpb
              have r2 := hcw4.out.b2.cell
              have r4 := hcw4.out.b4.cell
              have r4f := hcw4.out.b4.frozen
              clear hb4 p2 p4 p4f p11 p12 n0 n1 n2 n3 n4 n5 hpb
              cases fb with
              | false =>
                have hbad := Lib.hid (hst1.out c (by rw [hstep.out]; simp))
                have hbk := chk_bad hcw4.out hkf4.out
                gi_wp2
                exact ⟨hbk.1, rfl, hsn.out.trans hbad.out, hbk.2.1, hbk.2.2⟩
              | true =>
                have e3 := Lib.hid (three_index y nd.key nd.val)
                have hl3 : Hid (∀ k, ([y, nd.key, nd.val][k]?).getD 0 < 18446744073709551616) := Lib.hid (three_lt hy64 hok.out.key hok.out.val)
                have hbad0 : Hid (c.bad R y = false) := Lib.hid (by rw [hstep.out]; simp [hfst, hq, hq0])
                have hpB : B + 9 ≤ W1.heap.size := by omega
                obtain ⟨m0, m1, m2, m3, m4, m5⟩ := hbx4.out.cells
                clear hcw2 hbx2 hkm2 hkf2 hF hF2 hCm hstep r4 r4f
                gi_wp2_with fail
                gi_loopw [79] (fun iv wr => ∃ (k : Nat) (S' : List Nat), k ≤ 3 ∧ iv = .int .i64 k ∧ Hid (chk3 c.S ([y, nd.key, nd.val].take k) = some S') ∧ Hid (ChkW w s B { c with S := S' } wr) ∧ Hid (NdBox wr nb nd) ∧ wr.cell? ⟨W1.heap.size, 0, none⟩ = some (.string pk) ∧ Hid (KM (ChkE w.heap.size B) W wr) ∧ Hid (KeepsFrom w2.heap.size W wr)) (fun iv _ => 3 - (intOf iv).toNat)
                case atStart => exact ⟨0, c.S, by omega, rfl, Lib.hid rfl, hcw4, hbx4, hpb4, hkm4, hkf4⟩
                case round =>
                  obtain ⟨k, S', hk, rfl, hc3, hcr, hbr, hpr, hkr, hfr⟩ := hrel
                  have u9 := hcr.out.b9.cell
                  have u4 := hcr.out.b4.cell
                  have u4f := hcr.out.b4.frozen
                  obtain ⟨D, hmap, hsee⟩ := hcr.out.seen
                  have hS3 := chk3_len _ _ _ hc3.out
                  have hS4 : S'.length ≤ c.S.length + 3 := by rw [hS3]; simp; omega
                  by_cases hlt : k < 3
                  · have hi3 := fun W => e3.out k hlt W
                    have hz64 := hl3.out k
                    have htk : Hid (chk3 c.S ([y, nd.key, nd.val].take (k + 1)) = if ([y, nd.key, nd.val][k]?).getD 0 ∈ S' then none else some (S' ++ [([y, nd.key, nd.val][k]?).getD 0])) := Lib.hid (by
                      have hkl : k < [y, nd.key, nd.val].length := hlt
                      rw [List.take_add_one, List.getElem?_eq_getElem hkl, Option.toList_some, chk3_snoc, hc3.out]
                      rfl)
                    generalize hzz9 : ([y, nd.key, nd.val][k]?).getD 0 = z at *
                    have hat0 := hsee.at' z
                    have hmapH := Lib.hid hmap
                    have hseeH := Lib.hid hsee
                    clear hmap hsee
                    have hlk := seen_look hmapH.out hz64 hat0
                    have hSl : S'.length ≤ 1000000 := by omega
                    by_cases hz : z ∈ S'
                    · rw [if_pos hz] at hlk htk
                      gi_wp2_with (gi_at_mapUpdate; refine wpListIn_mapUpdate_own _ rfl _ _ _ 148 rfl 32 3 keyedH Tryz.underlying148 _ (B + 1) _ D rfl hmapH.out (by unfold maxLen; simp only; omega) _ _ (.int .u64 (z : Nat)) rfl rfl (keyH hz64) (.lit (.int .i64 2)) [] (plain_int (by omega) (by omega)) ?_; intro w6 hown6 hgrow6; obtain ⟨s1, s2, s3, s4, s5⟩ := hcr.out.seeTurn hgrow6; have hlk2 := seen_look hown6 hz64 (seen_put_at hseeH.out.tidy.isMap z 2); have v9 := (hcr.out.b9.kept hgrow6 (fun e => by simp only [Option.some.injEq] at e; omega)).cell; have v4 := s5.cell; have v4f := s5.frozen)
                      have hbad : Hid (c.step R y = none) := Lib.hid (by
                        rw [hst2.out c hbad0.out]
                        have := chk3_none _ ([y, nd.key, nd.val].drop (k + 1)) _ htk.out
                        rw [List.take_append_drop] at this
                        rw [this]; rfl)
                      have hkf := hfr.out.trans ((s2.mono (show B + 7 ≤ w2.heap.size by omega)).trans ((KeepsOthers.setCell w6 ⟨w.heap.size + 1, 0, none⟩ (.int .i64 8)).from w2.heap.size))
                      exact ⟨hkf, rfl, hsn.out.trans hbad.out, s5.set _, s3.setCell (p := ⟨w.heap.size + 1, 0, none⟩) (by simp) _⟩
                    · rw [if_neg hz] at hlk htk
                      gi_wp2_with (gi_at_mapUpdate; refine wpListIn_mapUpdate_own _ rfl _ _ _ 148 rfl 32 3 keyedH Tryz.underlying148 _ (B + 1) _ D rfl hmapH.out (by unfold maxLen; simp only; omega) _ _ (.int .u64 (z : Nat)) rfl rfl (keyH hz64) (.lit (.int .i64 1)) [] (plain_int (by omega) (by omega)) ?_; intro w6 hown6 hgrow6; obtain ⟨s1, s2, s3, s4, s5⟩ := hcr.out.seeTurn hgrow6; have hc6 := Lib.hid (hcr.out.see hgrow6 hseeH.out hz hown6); have hlk2 := seen_look hown6 hz64 (seen_put_at hseeH.out.tidy.isMap z 1); have v9 := hc6.out.b9.cell)
                      have hbr6 : Hid (NdBox w6 nb nd) := Lib.hid ((hgrow6.block nb (Array.getElem?_eq_some_iff.1 hbr.out).1 (fun e => hcr.out.not_nd hbr.out (by simp only [Option.some.injEq] at e; exact .inr (.inr (.inl e))))).trans hbr.out)
                      have hp6 : w6.cell? ⟨W1.heap.size, 0, none⟩ = some (.string pk) := (World.cell?_of_block (a := ⟨W1.heap.size, 0, none⟩) (hgrow6.block W1.heap.size (cell_lt hpr) (fun e => by simp only [Option.some.injEq] at e; omega))).trans hpr
                      have hk6 := Lib.hid (hkr.out.trans s1)
                      have hf6 := Lib.hid (hfr.out.trans (s2.mono (show B + 7 ≤ w2.heap.size by omega)))
                      go_roundw
                      case rel => exact ⟨k + 1, S' ++ [z], by omega, by go_num, htk, hc6, hbr6, hp6, hk6, hf6⟩
                      case measure => simp [intOf]; omega
                  · obtain rfl : k = 3 := by omega
                    have hfin : Hid (chkL R x ((pre ++ [(⟨y, hy⟩ : {y : Nat // y ∈ L})]).map (fun (z : {y : Nat // y ∈ L}) => z.1)) = some ⟨S', pk, false, c.sides ++ [nd.left, nd.right]⟩) := Lib.hid (by
                      have h9 := hc3.out
                      rw [show [y, nd.key, nd.val].take 3 = [y, nd.key, nd.val] from rfl] at h9
                      rw [hsn.out, hst2.out c hbad0.out, h9]
                      rfl)
                    obtain ⟨hcL, hkL⟩ := hcr.out.setLast pk
                    have v11 := hcr.out.b11.cell
                    have v11f := hcr.out.b11.frozen
                    have v12 := hcr.out.b12.cell
                    have v12f := hcr.out.b12.frozen
                    have hbrL : NdBox ((wr.setCell ⟨B + 5, 0, none⟩ (.string pk)).setCell ⟨B + 6, 0, none⟩ (.bool false)) nb nd := (hkL.kb.same _ _ hbr.out (.inl rfl) (hcr.out.not_nd hbr.out))
                    obtain ⟨g0, g1, g2, g3, g4, g5⟩ := hbrL.cells
                    obtain ⟨v, hv, hrow⟩ := hcL.sides
                    have c10 := hv.cell
                    have hsdl : c.sides.length ≤ 100000 := by omega
                    have hcLH := Lib.hid hcL
                    have hkLH := Lib.hid (hkr.out.trans hkL)
                    have hfLH := Lib.hid (hfr.out.trans ((((KeepsOthers.setCell wr ⟨B + 5, 0, none⟩ (.string pk)).trans (KeepsOthers.setCell _ ⟨B + 6, 0, none⟩ (.bool false)))).from w2.heap.size))
                    have hvH := Lib.hid hv
                    have hrowH := Lib.hid hrow
                    have hB2 : B + 2 ≤ wr.heap.size := by have := hcr.out.b9.lt; omega
                    clear hcL hkL hv hrow hbrL hmap hsee
                    gi_wp2_with (gi_at_builtin; go_must (refine wpListIn_append_own_at _ rfl _ _ 49 rfl (B + 2) 32 i0 (.int .u64 0) 1 8 Tryz.under_hs hi hz0 hz1 hz2 rfl (by decide) _ _ _ rfl (hrowH.out.alloc _) ⟨wr.heap.size, 0, none⟩ 2 2 [.int .u64 (nd.left : Nat), .int .u64 (nd.right : Nat)] rfl rfl (by have h9 := two_new ((wr.setCell ⟨B + 5, 0, none⟩ (.string pk)).setCell ⟨B + 6, 0, none⟩ (.bool false)) 32 (.int .u64 (nd.left : Nat)) (.int .u64 (nd.right : Nat)); rw [show ((wr.setCell ⟨B + 5, 0, none⟩ (.string pk)).setCell ⟨B + 6, 0, none⟩ (.bool false)).heap.size = wr.heap.size by simp] at h9; exact h9) (by simp [Value.oneCell']) (by unfold maxLen; simp only; omega) (by simp only; omega) (by simp; omega) ?_; intro v' w7 hown' hgrow _ hblk; obtain ⟨b1, b2, b3, b4⟩ := hcLH.out.sidesPut hvH.out hrowH.out (by simpa using hown') hgrow hblk; obtain ⟨g', cap', rfl⟩ := ownsRow_succ (k := c.sides.length + 1) (by simpa using hown'); have z4 := b1.cell; have z4f := b1.frozen))
                    exact ⟨hfLH.out.trans (b4.from _), hkLH.out.trans b3, ⟨_, hfin.out, b2⟩⟩
        · have d : ((pe : Int) != 0) = true := by simp; omega
          have hbad := Lib.hid (hst1.out c (by rw [hstep.out]; simp [hpe0]))
          have hbk := chk_bad hcw2.out hkf2.out
          clear n0 n1 n2 n3 n4 n5
          gi_wp2
          all_goals first | exact ⟨hbk.1, rfl, hsn.out.trans hbad.out, hbk.2.1, hbk.2.2⟩ | (rename_i x9 b9 h9 h8; exfalso; first | (simp [undef] at h9; done) | (cases h9; done) | (unfold undef at h9; cases h9; done))
      case done =>
        rintro D' xs W hD hxs ⟨c, hc, hcw⟩ hK
        rw [hxs] at hc
        have hC3 : Hid (C = if c.sides.any (fun x => x != 0 && !c.S.contains x) then 8 else if (3 * nx.size) % 18446744073709551616 ≠ c.S.length then 8 else 0) := Lib.hid (by rw [hC2H.out, hc])
        have hlc := chkL_len hc
        have hsd64 := chkL_sides (fun z => HH.out.nodeG z) hx hc
        have hSd : c.sides.length ≤ 100000 := by omega
        have hSc : c.S.length ≤ 120000 := by omega
        obtain ⟨v, hv, hrow⟩ := hcw.sides
        obtain ⟨g, cc, rfl⟩ := row_pos hrow (by omega)
        obtain ⟨D, hmap, hsee⟩ := hcw.seen
        have q10 := hv.cell
        have q9 := hcw.b9.cell
        have q2 := hcw.b2.cell
        have q4 := hcw.b4.cell
        have q4f := hcw.b4.frozen
        have hcwH := Lib.hid hcw
        have hrowH := Lib.hid hrow
        have hmapH := Lib.hid hmap
        have hseeH := Lib.hid hsee
        have hKH := Lib.hid hK
        clear hc hcw hv hrow hmap hsee hxs hlc
        have hs64 := Lib.hid hsd64
        clear hsd64
        have hbW := Lib.hid hcwH.out.below
        have hDb : w.heap.size ≤ D' := by have := hcwH.out.big; omega
        have hDn : D' ≠ w.heap.size + 1 := by have := hcwH.out.b4.lt; have := hcwH.out.big; omega
        have hset := fun (V : World) (hb : Below W.heap.size W V) (u : Int) => Lib.hid (show (((V.setCell ⟨w.heap.size + 1, 0, none⟩ (.int .i64 u)).putObj D' (.deferred none)).cell? ⟨w.heap.size + 1, 0, none⟩ = some (.int .i64 u) ∧ Below w.heap.size w ((V.setCell ⟨w.heap.size + 1, 0, none⟩ (.int .i64 u)).putObj D' (.deferred none))) ∧ (V.setCell ⟨w.heap.size + 1, 0, none⟩ (.int .i64 u)).heap[D']? = some (.deferred (some [])) from by
          have hV4 : Boxed V (w.heap.size + 1) 26 (.int .i64 0) := (hb.block _ hcwH.out.b4.lt).trans hcwH.out.b4
          have hVD : V.heap[D']? = some (.deferred (some [])) := (hb.block _ (Array.getElem?_eq_some_iff.1 hKH.out).1).trans hKH.out
          have hb9 : Boxed ((V.setCell ⟨w.heap.size + 1, 0, none⟩ (.int .i64 u)).putObj D' (.deferred none)) (w.heap.size + 1) 26 (.int .i64 u) := (World.putObj_heap_other (by omega)).trans (hV4.set _)
          have hK1 : (V.setCell ⟨w.heap.size + 1, 0, none⟩ (.int .i64 u)).heap[D']? = some (.deferred (some [])) := (Below.heap_setCell _ _ _ D' (fun e => hDn e)).trans hVD
          refine ⟨⟨hb9.cell, ?_⟩, hK1⟩
          exact ((hbW.out.trans (hb.mono hbW.out.size)).setCell (p := ⟨w.heap.size + 1, 0, none⟩) (by simp) _).trans (belowK_b (w := w) (Nat.le_refl _) _ D' _ _ hDb hK1 rfl rfl))
        gi_wp2_with fail
        gi_loopw [102] (fun iv wr => ∃ k : Nat, k ≤ c.sides.length ∧ iv = .int .i64 k ∧ wr = W ∧ Hid (∀ y ∈ c.sides.take k, (y != 0 && !c.S.contains y) = false)) (fun iv _ => c.sides.length - (intOf iv).toNat)
        case atStart => exact ⟨0, by omega, rfl, rfl, Lib.hid (fun y hy => by simp at hy)⟩
        case round =>
          obtain ⟨k, hk, rfl, rfl, hall⟩ := hrel
          by_cases hlt : k < c.sides.length
          · have hy64 := hs64.out c.sides[k] (List.getElem_mem hlt)
            have hcell := hrowH.out.cells (g := g) rfl k (.int .u64 (c.sides[k] : Nat)) (by rw [hsV, List.getElem?_map, List.getElem?_eq_getElem hlt]; rfl)
            rw [show (⟨g, 0, none⟩ : Addr).add k = ⟨g, k, none⟩ by unfold Addr.add; split <;> simp_all] at hcell
            have hstp : Hid (∀ y ∈ c.sides.take (k + 1), y ∈ c.sides.take k ∨ y = c.sides[k]) := Lib.hid (fun y hy => by
              rw [List.take_succ_eq_append_getElem hlt] at hy
              rcases List.mem_append.1 hy with h | h
              · exact .inl h
              · exact .inr (List.mem_singleton.1 h))
            have hmem : Hid (c.sides[k] ∈ c.sides) := Lib.hid (List.getElem_mem hlt)
            generalize c.sides[k] = y at *
            by_cases hy0 : y = 0
            · subst hy0
              gi_wp2
              go_roundw
              case rel => exact ⟨k + 1, by omega, by go_num, trivial, Lib.hid (fun z hz => by
                rcases hstp.out z hz with h | rfl
                · exact hall.out z h
                · simp)⟩
              case measure => simp [intOf]; omega
            · have dy : ((y : Int) != 0) = true := by simp; omega
              have dy2 : ((y : Int) == 0) = false := by simp; omega
              have hlk := seen_look hmapH.out hy64 (hseeH.out.at' y)
              by_cases hyS : y ∈ c.S
              · rw [if_pos hyS] at hlk
                gi_wp2
                go_roundw
                case rel => exact ⟨k + 1, by omega, by go_num, trivial, Lib.hid (fun z hz => by
                  rcases hstp.out z hz with h | rfl
                  · exact hall.out z h
                  · simp [hyS])⟩
                case measure => simp [intOf]; omega
              · rw [if_neg hyS] at hlk
                have hC8 : Hid (C = 8) := Lib.hid (by
                  rw [hC3.out, if_pos]
                  rw [List.any_eq_true]
                  exact ⟨y, hmem.out, by simp [hy0, hyS]⟩)
                obtain ⟨⟨hr9, hbf⟩, hK1⟩ := (hset _ (Below.refl _ _) 8).out
                have hbfH := Lib.hid hbf
                clear hbf
                gi_wp2
                refine ⟨by simp, .inl ⟨_, _, rfl, run_takeDeferred hK1, ?_⟩⟩
                refine ⟨.int .i64 8, by simp [results, Tryz.f54, go_sem, hr9], by rw [hC8.out]; rfl, hbfH.out⟩
          · obtain rfl : k = c.sides.length := by omega
            have hC4 : Hid (C = if (3 * nx.size) % 18446744073709551616 ≠ c.S.length then 8 else 0) := Lib.hid (by
              rw [hC3.out, if_neg]
              intro h9
              rw [List.any_eq_true] at h9
              obtain ⟨y, hy, h8⟩ := h9
              have := hall.out y (by rwa [List.take_length])
              rw [h8] at this
              cases this)
            gi_wp2_with fail
            refine (hGx.out _ hbW.out).mono ?_
            rintro e w9 ⟨rfl, hb9⟩
            have hb10 : Below wr.heap.size wr (w9.alloc (Obj.cells #[Value.int IntKind.u64 (nx.key : Nat), Value.int IntKind.u64 (nx.val : Nat), Value.int IntKind.u64 (nx.left : Nat), Value.int IntKind.u64 (nx.right : Nat), Value.int IntKind.u64 (nx.mark : Nat), Value.int IntKind.u64 (nx.size : Nat)] 53)) := hb9.alloc hb9.size _
            have hcw9 := Lib.hid (hcwH.out.below' hb10)
            obtain ⟨om, hom, hoc, _⟩ := seenMap_obj hmapH.out
            have hln := fun ty => World.ownsMap.len (seenMap_same hmapH.out ((hb10.block _ (Array.getElem?_eq_some_iff.1 hom).1))) Tryz.underlying148 ty
            rw [hseeH.out.size] at hln
            have y9 := (hb9.cell (p := ⟨B + 3, 0, none⟩) (cell_lt q9)).trans q9
            have y4 := (hb9.cell (p := ⟨w.heap.size + 1, 0, none⟩) (cell_lt q4)).trans q4
            have y4f := (hb9.frozen (p := ⟨w.heap.size + 1, 0, none⟩) (cell_lt q4)).trans q4f
            have z9 := hb9.size
            have x9 := (hb10.cell (p := ⟨B + 3, 0, none⟩) (cell_lt q9)).trans q9
            have x4 := (hb10.cell (p := ⟨w.heap.size + 1, 0, none⟩) (cell_lt q4)).trans q4
            have x4f := (hb10.frozen (p := ⟨w.heap.size + 1, 0, none⟩) (cell_lt q4)).trans q4f
            clear hb9 q9 q4 q4f q2 q10 hom hoc hGx
            have hwr := Lib.hid (wrap_three nx.size)
            by_cases hq : (3 * nx.size) % 18446744073709551616 = c.S.length
            · have dq : (IntKind.u64.wrap (3 * (nx.size : Int)) != (c.S.length : Int)) = false := by rw [hwr.out, hq]; simp
              have hC8 : Hid (C = 0) := Lib.hid (by rw [hC4.out, if_neg (by simpa using hq)])
              obtain ⟨⟨hr9, hbf⟩, hK1⟩ := (hset _ hb10 0).out
              have hbfH := Lib.hid hbf
              clear hbf hset hb10 hq
              gi_wp2
              refine ⟨by simp, .inl ⟨_, _, rfl, run_takeDeferred hK1, ?_⟩⟩
              refine ⟨.int .i64 0, by simp [results, Tryz.f54, go_sem, hr9], by rw [hC8.out]; rfl, hbfH.out⟩
            · have dq : (IntKind.u64.wrap (3 * (nx.size : Int)) != (c.S.length : Int)) = true := by rw [hwr.out]; simp; omega
              have hC8 : Hid (C = 8) := Lib.hid (by rw [hC4.out, if_pos hq])
              obtain ⟨⟨hr9, hbf⟩, hK1⟩ := (hset _ hb10 8).out
              have hbfH := Lib.hid hbf
              clear hbf hset hb10 hq
              gi_wp2
              refine ⟨by simp, .inl ⟨_, _, rfl, run_takeDeferred hK1, ?_⟩⟩
              refine ⟨.int .i64 8, by simp [results, Tryz.f54, go_sem, hr9], by rw [hC8.out]; rfl, hbfH.out⟩
      case stop =>
        rintro D' cd pre W hD hSp ⟨rfl, hnone, hb8, hbw⟩ hK
        have hC8 : Hid (C = 8) := Lib.hid (by
          obtain ⟨t, ht⟩ := hSp
          have h9 := chkL_none R x _ t hnone
          rw [← ht] at h9
          rw [hC2H.out, h9])
        have hbH := Lib.hid hbw
        have hDn : D' ≠ w.heap.size + 1 := by have := hb8.lt; have := hc2.big; omega
        have hb9 : Boxed (W.putObj D' (.deferred none)) (w.heap.size + 1) 26 (.int .i64 8) := (World.putObj_heap_other (by omega)).trans hb8
        have hr9 := hb9.cell
        clear hSp hnone hbw
        gi_wp2
        refine ⟨by simp, .inl ⟨_, _, rfl, run_takeDeferred hK, ?_⟩⟩
        refine ⟨.int .i64 8, by simp [results, Tryz.f54, go_sem, hr9], by rw [hC8.out]; rfl, ?_⟩
        exact hbH.out.trans (belowK_b (w := w) (Nat.le_refl _) _ D' _ _ (by have := hc2.big; omega) hK rfl rfl)
    · have dz : ((zx : Int) != 0) = true := by simp; omega
      rw [if_pos hz0] at hC2H
      have r0 := alloc_cell (Obj.cells #[Value.int IntKind.u64 (nx.key : Nat), Value.int IntKind.u64 (nx.val : Nat), Value.int IntKind.u64 (nx.left : Nat), Value.int IntKind.u64 (nx.right : Nat), Value.int IntKind.u64 (nx.mark : Nat), Value.int IntKind.u64 (nx.size : Nat)] 53) (hu2.set (.int .i64 8)).cell
      have hbf := (hbw1.setCell (p := ⟨w.heap.size + 1, 0, none⟩) (by simp) (.int .i64 8)).alloc (by simp; omega) (Obj.cells #[Value.int IntKind.u64 (nx.key : Nat), Value.int IntKind.u64 (nx.val : Nat), Value.int IntKind.u64 (nx.left : Nat), Value.int IntKind.u64 (nx.right : Nat), Value.int IntKind.u64 (nx.mark : Nat), Value.int IntKind.u64 (nx.size : Nat)] 53)
      gi_wp2
      generalize World.alloc _ _ = Wf at *
      refine ⟨.int .i64 8, ?_, by rw [hC2H.out]; rfl, hbf⟩
      simp [results, Tryz.f54, go_sem, r0]
end
end Go.Proofs.YtjpmlneihbckpaaGreatDoor
/- Trees as they stand in a store's records, and what the walk layer tells of them: plain law. -/
set_option linter.unusedVariables false
set_option linter.unusedSimpArgs false
namespace Go.Proofs.YtjpmlneihbckpaaGreatDoor
open Go.RowKit Go.Shelf
/-- a tree as it stands in records: of each node its handle, the handles of its key and value, its mark, and its texts -/
inductive BT where
  | nil
  | node (h kh vh mark : Nat) (k v : ByteArray) (l r : BT)
namespace BT
def root : BT → Nat
  | nil => 0
  | node h _ _ _ _ _ _ _ => h
def size : BT → Nat
  | nil => 0
  | node _ _ _ _ _ _ l r => l.size + 1 + r.size
def nodes : BT → List Nat
  | nil => []
  | node h _ _ _ _ _ l r => l.nodes ++ h :: r.nodes
def hs : BT → List Nat
  | nil => []
  | node h kh vh _ _ _ l r => l.hs ++ h :: kh :: vh :: r.hs
def prs : BT → List (ByteArray × ByteArray)
  | nil => []
  | node _ _ _ _ k v l r => l.prs ++ (k, v) :: r.prs
/-- the tree stands in the records -/
def At (R : Nat → Option (List Nat)) : BT → Prop
  | nil => True
  | node h kh vh m k v l r => h ≠ 0 ∧ R h = some (Nd.ws ⟨kh, vh, l.root, r.root, m, l.size + 1 + r.size⟩) ∧ R kh = some (Tx.wordsL k.data.toList) ∧ R vh = some (Tx.wordsL v.data.toList) ∧ k.size ≤ 1000 ∧ v.size ≤ 1000 ∧ l.At R ∧ r.At R
theorem nodes_len : ∀ t : BT, t.nodes.length = t.size
  | nil => rfl
  | node _ _ _ _ _ _ l r => by simp only [nodes, size, List.length_append, List.length_cons, nodes_len l, nodes_len r]; omega
theorem prs_len : ∀ t : BT, t.prs.length = t.size
  | nil => rfl
  | node _ _ _ _ _ _ l r => by simp only [prs, size, List.length_append, List.length_cons, prs_len l, prs_len r]; omega
theorem hs_len : ∀ t : BT, t.hs.length = 3 * t.size
  | nil => rfl
  | node _ _ _ _ _ _ l r => by simp only [hs, size, List.length_append, List.length_cons, hs_len l, hs_len r]; omega
theorem nodes_hs : ∀ (t : BT) (x : Nat), x ∈ t.nodes → x ∈ t.hs
  | nil, x, h => by simp [nodes] at h
  | node h kh vh m k v l r, x, hx => by
    simp only [nodes, hs, List.mem_append, List.mem_cons] at hx ⊢
    rcases hx with hx | hx | hx
    · exact .inl (nodes_hs l x hx)
    · exact .inr (.inl hx)
    · exact .inr (.inr (.inr (.inr (nodes_hs r x hx))))
theorem root_nodes : ∀ t : BT, t.root = 0 ∨ t.root ∈ t.nodes
  | nil => .inl rfl
  | node h _ _ _ _ _ l r => .inr (by simp [nodes, root])
end BT
section
variable {R : Nat → Option (List Nat)}
theorem blobR_text {x : Nat} {k : ByteArray} (h : R x = some (Tx.wordsL k.data.toList)) (hk : k.size ≤ 1000) : blobR R x = some k ∧ blobE R x = 0 := by
  obtain ⟨h1, h2⟩ := Tx.text_words k hk
  unfold blobR blobE
  rw [h]
  simp only [if_pos h1, h2]
  exact ⟨trivial, trivial⟩
theorem nodeR_at {x : Nat} {nd : Nd} (h : R x = some nd.ws) : nodeE R x = 0 ∧ nodeG R x = nd := by
  have h1 := nodeR_of h
  exact ⟨nodeE_zero.2 ⟨_, h1⟩, by unfold nodeG; rw [h1]; rfl⟩
namespace BT
def lefts : BT → List BT → List BT
  | nil, ps => ps
  | node h kh vh m k v l r, ps => lefts l (node h kh vh m k v l r :: ps)
def long : BT → Nat
  | nil => 0
  | node _ _ _ _ _ _ l _ => l.long + 1
def told : List BT → List Nat
  | [] => []
  | nil :: ps => told ps
  | node h _ _ _ _ _ _ r :: ps => h :: (r.nodes ++ told ps)
def todo : List BT → Nat
  | [] => 0
  | nil :: ps => todo ps
  | node _ _ _ _ _ _ _ r :: ps => r.size + todo ps
theorem told_lefts : ∀ (t : BT) (ps : List BT), told (lefts t ps) = t.nodes ++ told ps
  | nil, ps => rfl
  | node h kh vh m k v l r, ps => by rw [lefts, told_lefts l, told, nodes, List.append_assoc]; rfl
theorem todo_lefts : ∀ (t : BT) (ps : List BT), t.long + todo (lefts t ps) = t.size + todo ps
  | nil, ps => rfl
  | node h kh vh m k v l r, ps => by
    have := todo_lefts l (node h kh vh m k v l r :: ps)
    rw [lefts, long, size]
    rw [todo] at this
    omega
def Stk (R : Nat → Option (List Nat)) (ps : List BT) : Prop := ∀ p ∈ ps, p.At R ∧ p ≠ nil
theorem stk_lefts : ∀ (t : BT) (ps : List BT), t.At R → Stk R ps → Stk R (lefts t ps)
  | nil, ps, _, h => h
  | node h kh vh m k v l r, ps, ht, hp => stk_lefts l _ ht.2.2.2.2.2.2.1 (fun p hq => by
      rcases List.mem_cons.1 hq with rfl | hq
      · exact ⟨ht, by simp⟩
      · exact hp p hq)
theorem dive_at : ∀ (t : BT) (f : Nat) (ps : List BT), t.At R → t.long < f → dive R f (ps.map root) t.root = some ((lefts t ps).map root, f - t.long, 0)
  | nil, f, ps, _, hf => by
    obtain ⟨f', rfl⟩ : ∃ f', f = f' + 1 := ⟨f - 1, by simp only [long] at hf; omega⟩
    rw [dive, if_pos (show nil.root = 0 from rfl)]
    rfl
  | node h kh vh m k v l r, f, ps, ht, hf => by
    obtain ⟨f', rfl⟩ : ∃ f', f = f' + 1 := ⟨f - 1, by simp only [long] at hf; omega⟩
    obtain ⟨h1, h2, h3, h4, h5, h6, hl, hr⟩ := ht
    obtain ⟨e1, e2⟩ := nodeR_at h2
    simp only [long] at hf
    rw [dive, show (node h kh vh m k v l r).root = h from rfl, if_neg h1, if_neg (by simp [e1]), e2]
    have := dive_at l f' (node h kh vh m k v l r :: ps) hl (by omega)
    rw [show (node h kh vh m k v l r :: ps).map root = h :: ps.map root from rfl] at this
    rw [this, lefts, long, show f' + 1 - (l.long + 1) = f' - l.long by omega]
theorem goO_at : ∀ (g f : Nat) (ps : List BT) (t : BT), t.At R → Stk R ps → t.size + todo ps < f → (t.nodes ++ told ps).length ≤ g → goO R g f (ps.map root) t.root = t.nodes ++ told ps
  | 0, f, ps, t, ht, hp, hf, hg => by
    rw [List.eq_nil_of_length_eq_zero (Nat.le_zero.1 hg)]
    rfl
  | g + 1, f, ps, t, ht, hp, hf, hg => by
    have hlt := todo_lefts t ps
    have hst := stk_lefts t ps ht hp
    rw [goO, if_neg (by omega), dive_at t f ps ht (by omega)]
    rw [← told_lefts t ps] at hg ⊢
    cases hL : lefts t ps with
    | nil => rfl
    | cons p ps' =>
      rw [hL] at hlt hst hg
      obtain ⟨hpa, hpn⟩ := hst p (by simp)
      cases p with
      | nil => exact absurd rfl hpn
      | node h kh vh m k v l r =>
        obtain ⟨h1, h2, h3, h4, h5, h6, hl, hr⟩ := hpa
        obtain ⟨e1, e2⟩ := nodeR_at h2
        rw [todo] at hlt
        rw [told, List.length_cons] at hg
        show h :: goO R g (f - t.long) (ps'.map root) (nodeG R h).right = h :: (r.nodes ++ told ps')
        rw [e2]
        show h :: goO R g (f - t.long) (ps'.map root) r.root = _
        rw [goO_at g (f - t.long) ps' r hr (fun q hq => hst q (by simp [hq])) (by omega) (by omega)]
theorem inR_at {t : BT} (ht : t.At R) {n : Nat} (hn : t.size ≤ n / 8) : inR R n t.root = t.nodes := by
  have h1 := nodes_len t
  have := goO_at (R := R) (n / 8 + 1) (n / 8 + 1) [] t ht (fun p hp => by simp at hp) (by simp [todo]; omega) (by simp [told]; omega)
  rw [told, List.append_nil] at this
  exact this
/-- the size that a root tells -/
theorem tsize_at {t : BT} (ht : t.At R) (h0 : R 0 = none) (hs : t.size < 9223372036854775808) : tsizeR R t.root = t.size := by
  unfold tsizeR
  cases t with
  | nil =>
    have : nodeG R 0 = Nd.zero := by unfold nodeG nodeR; rw [h0]; rfl
    rw [root, this]
    exact IntWalk.wrap64_in 0 (by omega)
  | node h kh vh m k v l r =>
    obtain ⟨h1, h2, _⟩ := ht
    rw [root, (nodeR_at h2).2]
    exact IntWalk.wrap64_in _ (by simp only [size] at hs ⊢; omega)
/-- the node of a key -/
def find (k : ByteArray) : BT → Nat
  | nil => 0
  | node h _ _ _ k' _ l r => if Tx.cmp k k' < 0 then l.find k else if 0 < Tx.cmp k k' then r.find k else h
def rank (k : ByteArray) : BT → Nat
  | nil => 0
  | node _ _ _ _ k' _ l r => if Tx.cmp k k' < 0 then l.rank k else if 0 < Tx.cmp k k' then l.size + 1 + r.rank k else l.size
theorem rank_le (k : ByteArray) : ∀ t : BT, t.rank k ≤ t.size
  | nil => Nat.le_refl _
  | node _ _ _ _ k' _ l r => by
    have h1 := rank_le k l
    have h2 := rank_le k r
    rw [rank, size]
    split
    · omega
    · split <;> omega
theorem key_at {R : Nat → Option (List Nat)} {nd : Nd} {k : ByteArray} (h : R nd.key = some (Tx.wordsL k.data.toList)) (hk : k.size ≤ 1000) : keyR R nd = k := by
  unfold keyR
  rw [(blobR_text h hk).1]
  rfl
theorem down_at (h0 : R 0 = none) (k : ByteArray) : ∀ (t : BT) (f b : Nat), t.At R → t.size ≤ f → b + t.size < 9223372036854775808 → downR R k f t.root b = (t.find k, ((b + t.rank k : Nat) : Int))
  | nil, f, b, _, _, _ => by
    cases f with
    | zero => rfl
    | succ f => rw [downR, if_pos (show nil.root = 0 from rfl)]; rfl
  | node h kh vh m k' v l r, f, b, ht, hf, hb => by
    obtain ⟨h1, h2, h3, h4, h5, h6, hl, hr⟩ := ht
    obtain ⟨e1, e2⟩ := nodeR_at h2
    simp only [size] at hf hb
    obtain ⟨f', rfl⟩ : ∃ f', f = f' + 1 := ⟨f - 1, by omega⟩
    have hk : keyR R (nodeG R h) = k' := by rw [e2]; exact key_at h3 h5
    have hts := tsize_at hl h0 (by omega)
    rw [downR, show (node h kh vh m k' v l r).root = h from rfl, if_neg h1, if_neg (by simp [e1]), hk, e2, find, rank]
    by_cases c1 : Tx.cmp k k' < 0
    · rw [if_pos c1, if_pos c1, if_pos c1]
      exact down_at h0 k l f' b hl (by omega) (by omega)
    · rw [if_neg c1, if_neg c1, if_neg c1]
      by_cases c2 : 0 < Tx.cmp k k'
      · rw [if_pos c2, if_pos c2, if_pos c2]
        simp only
        rw [hts, show wrap64 ((l.size : Int) + 1) = ((l.size + 1 : Nat) : Int) by rw [IntWalk.wrap64_in _ (by omega)]; push_cast; rfl, show wrap64 ((b : Int) + ((l.size + 1 : Nat) : Int)) = ((b + (l.size + 1) : Nat) : Int) by rw [IntWalk.wrap64_in _ (by omega)]; push_cast; rfl]
        rw [down_at h0 k r f' _ hr (by omega) (by omega), show b + (l.size + 1) + r.rank k = b + (l.size + 1 + r.rank k) by omega]
      · rw [if_neg c2, if_neg c2, if_neg c2]
        simp only
        rw [hts, IntWalk.wrap64_in _ (by omega)]
        push_cast; rfl
theorem findR_at {t : BT} (ht : t.At R) (h0 : R 0 = none) {n : Nat} (hn : t.size ≤ n / 8) (hn2 : n < 9223372036854775808) (k : ByteArray) : findR R n t.root k = t.find k ∧ rankR R n t.root k = (t.rank k : Nat) := by
  have := down_at h0 k t (n / 8 + 1) 0 ht (by omega) (by omega)
  unfold findR rankR
  rw [show (0 : Int) = ((0 : Nat) : Int) from rfl, this, Nat.zero_add]
  exact ⟨rfl, rfl⟩
theorem atG_at (h0 : R 0 = none) : ∀ (t : BT) (f i : Nat), t.At R → t.size ≤ f → t.size < 9223372036854775808 → (hi : i < t.size) → atG R f t.root (i : Nat) = (t.nodes[i]'(by rw [nodes_len]; exact hi), 0)
  | nil, f, i, _, _, _, hi => by simp [size] at hi
  | node h kh vh m k' v l r, f, i, ht, hf, hb, hi => by
    obtain ⟨h1, h2, h3, h4, h5, h6, hl, hr⟩ := ht
    obtain ⟨e1, e2⟩ := nodeR_at h2
    simp only [size] at hf hb hi
    obtain ⟨f', rfl⟩ : ∃ f', f = f' + 1 := ⟨f - 1, by omega⟩
    have hts := tsize_at hl h0 (by omega)
    have hln := nodes_len l
    rw [atG, show (node h kh vh m k' v l r).root = h from rfl, if_neg (by simp [e1]), e2]
    simp only [hts, nodes]
    by_cases c1 : i < l.size
    · rw [if_pos (by omega), atG_at h0 l f' i hl (by omega) (by omega) c1, List.getElem_append_left (by omega)]
    · rw [if_neg (by omega)]
      by_cases c2 : l.size < i
      · rw [if_pos (by omega), show wrap64 ((l.size : Int) + 1) = ((l.size + 1 : Nat) : Int) by rw [IntWalk.wrap64_in _ (by omega)]; push_cast; rfl, show wrap64 ((i : Int) - ((l.size + 1 : Nat) : Int)) = ((i - (l.size + 1) : Nat) : Int) by rw [IntWalk.wrap64_in _ (by omega)]; omega]
        rw [atG_at h0 r f' (i - (l.size + 1)) hr (by omega) (by omega) (by omega), List.getElem_append_right (by omega)]
        congr 1
        rw [List.getElem_cons, dif_neg (by omega)]
        congr 1
        omega
      · obtain rfl : i = l.size := by omega
        rw [if_neg (by omega), List.getElem_append_right (by omega)]
        congr 1
        rw [List.getElem_cons, dif_pos (by omega)]
theorem spotAt_at {t : BT} (ht : t.At R) (h0 : R 0 = none) {n : Nat} (hn : t.size ≤ n / 8) (hn2 : n < 9223372036854775808) (i : Int) :
    spotAtR R n t.root i = if h : 0 ≤ i ∧ i < t.size then (t.nodes[i.toNat]'(by rw [nodes_len]; omega), 0) else (0, 2) := by
  have hts := tsize_at ht h0 (by omega)
  unfold spotAtR
  rw [hts]
  by_cases h : 0 ≤ i ∧ i < t.size
  · obtain ⟨j, rfl⟩ := Int.eq_ofNat_of_zero_le h.1
    rw [if_neg (by omega), dif_pos h, atG_at h0 t _ j ht (by omega) (by omega) (by omega)]
    rfl
  · rw [if_pos (by omega), dif_neg h]
end BT
end
end Go.Proofs.YtjpmlneihbckpaaGreatDoor
/- Trees in records: a right one is told right; ranks and places by keys. Plain law. -/
set_option linter.unusedVariables false
set_option linter.unusedSimpArgs false
namespace Go.Proofs.YtjpmlneihbckpaaGreatDoor
open Go.RowKit Go.Shelf
theorem cmp_zero {a b : ByteArray} : Tx.cmp a b = 0 ↔ a = b := by
  unfold Tx.cmp
  rw [Tx.cb_zero]
  constructor
  · intro h
    cases a; cases b
    simp only [ByteArray.mk.injEq]
    exact Array.toList_inj.1 h
  · rintro rfl; rfl
theorem cmp_swap (a b : ByteArray) : Tx.cmp b a = -Tx.cmp a b := Tx.cb_swap _ _
theorem cmp_lt_trans {a b c : ByteArray} (h : Tx.cmp a b < 0) (k : Tx.cmp b c < 0) : Tx.cmp a c < 0 :=
  (Tx.cb_trans _ _ _ (Int.le_of_lt h) (Int.le_of_lt k)).2 (.inl h)
theorem cmp_range (a b : ByteArray) : Tx.cmp a b = -1 ∨ Tx.cmp a b = 0 ∨ Tx.cmp a b = 1 := Tx.cb_range _ _
/-- how many keys of pairs are below one -/
def rankL (l : List (ByteArray × ByteArray)) (k : ByteArray) : Nat := l.countP fun p => decide (Tx.cmp p.1 k < 0)
/-- pairs by rising keys -/
def Rising (l : List (ByteArray × ByteArray)) : Prop := l.Pairwise fun a b => Tx.cmp a.1 b.1 < 0
theorem rankL_le (l : List (ByteArray × ByteArray)) (k : ByteArray) : rankL l k ≤ l.length := List.countP_le_length
theorem rankL_all {l : List (ByteArray × ByteArray)} {k : ByteArray} (h : ∀ p ∈ l, Tx.cmp p.1 k < 0) : rankL l k = l.length := by
  unfold rankL
  rw [List.countP_eq_length]
  exact fun p hp => decide_eq_true (h p hp)
theorem rankL_none {l : List (ByteArray × ByteArray)} {k : ByteArray} (h : ∀ p ∈ l, ¬ Tx.cmp p.1 k < 0) : rankL l k = 0 := by
  unfold rankL
  rw [List.countP_eq_zero]
  exact fun p hp e => h p hp (of_decide_eq_true e)
theorem rankL_append (l m : List (ByteArray × ByteArray)) (k : ByteArray) : rankL (l ++ m) k = rankL l k + rankL m k := List.countP_append
theorem rankL_cons (p : ByteArray × ByteArray) (m : List (ByteArray × ByteArray)) (k : ByteArray) : rankL (p :: m) k = rankL m k + if Tx.cmp p.1 k < 0 then 1 else 0 := by
  unfold rankL
  rw [List.countP_cons]
  simp
namespace BT
variable {R : Nat → Option (List Nat)}
theorem rank_list (k : ByteArray) : ∀ t : BT, Rising t.prs → t.rank k = rankL t.prs k
  | nil, _ => rfl
  | node h kh vh m k' v l r, hs => by
    unfold Rising at hs
    rw [prs, List.pairwise_append, List.pairwise_cons] at hs
    obtain ⟨hl, ⟨hkr, hr⟩, hlk⟩ := hs
    have e1 := rank_list k l hl
    have e2 := rank_list k r hr
    rw [rank, prs, rankL_append, rankL_cons]
    have hsw := cmp_swap k k'
    by_cases c1 : Tx.cmp k k' < 0
    · have hnn : rankL r.prs k = 0 := by
        refine rankL_none fun p hp e => ?_
        have h1 : Tx.cmp k' p.1 < 0 := hkr p hp
        have h2 := cmp_lt_trans c1 h1
        have := cmp_swap k p.1
        omega
      rw [if_pos c1, e1, if_neg (show ¬ Tx.cmp k' k < 0 by omega), hnn]
      rfl
    · rw [if_neg c1]
      have hll : rankL l.prs k = l.size := by
        rw [← prs_len]
        refine rankL_all fun p hp => ?_
        have h1 : Tx.cmp p.1 k' < 0 := hlk p hp (k', v) (by simp)
        by_cases c0 : Tx.cmp k k' = 0
        · rw [cmp_zero.1 c0]; exact h1
        · exact cmp_lt_trans h1 (by omega)
      by_cases c2 : 0 < Tx.cmp k k'
      · rw [if_pos c2, hll, e2, if_pos (show Tx.cmp k' k < 0 by omega)]
        omega
      · have hnn : rankL r.prs k = 0 := by
          refine rankL_none fun p hp e => ?_
          have h1 : Tx.cmp k' p.1 < 0 := hkr p hp
          have hk : k = k' := cmp_zero.1 (by omega)
          have := cmp_swap k p.1
          rw [hk] at this e
          omega
        rw [if_neg c2, hll, if_neg (show ¬ Tx.cmp k' k < 0 by omega), hnn]
        rfl
theorem find_list (k : ByteArray) : ∀ t : BT, t.find k = if (t.prs[t.rank k]?).map (·.1) = some k then (t.nodes[t.rank k]?).getD 0 else 0
  | nil => by simp [find, prs, rank]
  | node h kh vh m k' v l r => by
    have e1 := find_list k l
    have e2 := find_list k r
    have hl1 := prs_len l
    have hl2 := nodes_len l
    have hle := rank_le k l
    rw [find, rank, prs, nodes]
    by_cases c1 : Tx.cmp k k' < 0
    · rw [if_pos c1, if_pos c1, e1]
      by_cases hlt : l.rank k < l.size
      · rw [List.getElem?_append_left (by omega), List.getElem?_append_left (by omega)]
      · obtain he : l.rank k = l.size := by omega
        rw [he, List.getElem?_append_right (by omega), List.getElem?_eq_none (by omega), hl1, Nat.sub_self]
        rw [if_neg (by simp), if_neg]
        simp only [List.getElem?_cons_zero, Option.map_some, Option.some.injEq]
        rintro rfl
        have := (cmp_zero (a := k') (b := k')).2 rfl
        omega
    · rw [if_neg c1, if_neg c1]
      by_cases c2 : 0 < Tx.cmp k k'
      · rw [if_pos c2, if_pos c2, e2, List.getElem?_append_right (by omega), List.getElem?_append_right (by omega)]
        rw [hl1, hl2, show l.size + 1 + r.rank k - l.size = r.rank k + 1 by omega, List.getElem?_cons_succ, List.getElem?_cons_succ]
      · rw [if_neg c2, if_neg c2, List.getElem?_append_right (by omega), List.getElem?_append_right (by omega), hl1, hl2, Nat.sub_self]
        rw [if_pos]
        · rfl
        · simp only [List.getElem?_cons_zero, Option.map_some, Option.some.injEq]
          exact (cmp_zero.1 (by omega)).symm
end BT
/-- what stands of a node in a tree -/
structure En where
  h : Nat
  nd : Nd
  k : ByteArray
  v : ByteArray
def En.At (R : Nat → Option (List Nat)) (e : En) : Prop := R e.h = some e.nd.ws ∧ R e.nd.key = some (Tx.wordsL e.k.data.toList) ∧ R e.nd.val = some (Tx.wordsL e.v.data.toList) ∧ e.k.size ≤ 1000 ∧ e.v.size ≤ 1000 ∧ fitsR R e.nd = true
def En.hs (e : En) : List Nat := [e.h, e.nd.key, e.nd.val]
theorem En.At.pair {R : Nat → Option (List Nat)} {h : Nat} {nd : Nd} {k v : ByteArray} (h1 : R h = some nd.ws) (h2 : R nd.key = some (Tx.wordsL k.data.toList)) (h3 : R nd.val = some (Tx.wordsL v.data.toList)) (h4 : k.size ≤ 1000) (h5 : v.size ≤ 1000) : pairE R h = 0 ∧ pairP R h = (k, v) := by
  obtain ⟨e1, e2⟩ := nodeR_at h1
  obtain ⟨b1, b2⟩ := blobR_text h2 h4
  obtain ⟨b3, b4⟩ := blobR_text h3 h5
  have hp : pairE R h = 0 := by unfold pairE; rw [e2, if_neg (by simp [e1]), if_neg (by simp [b2]), b4]
  refine ⟨hp, ?_⟩
  unfold pairP
  rw [if_pos hp, e2, b1, b3]
  rfl
namespace BT
variable {R : Nat → Option (List Nat)}
def ents : BT → List En
  | nil => []
  | node h kh vh m k v l r => l.ents ++ ⟨h, ⟨kh, vh, l.root, r.root, m, l.size + 1 + r.size⟩, k, v⟩ :: r.ents
theorem ents_nodes : ∀ t : BT, t.ents.map (·.h) = t.nodes
  | nil => rfl
  | node _ _ _ _ _ _ l r => by rw [ents, nodes, List.map_append, List.map_cons, ents_nodes l, ents_nodes r]
theorem ents_prs : ∀ t : BT, t.ents.map (fun e => (e.k, e.v)) = t.prs
  | nil => rfl
  | node _ _ _ _ _ _ l r => by rw [ents, prs, List.map_append, List.map_cons, ents_prs l, ents_prs r]
theorem ents_hs : ∀ t : BT, t.ents.flatMap En.hs = t.hs
  | nil => rfl
  | node _ _ _ _ _ _ l r => by rw [ents, hs, List.flatMap_append, List.flatMap_cons, ents_hs l, ents_hs r]; rfl
theorem ents_sides : ∀ (t : BT) (e : En), e ∈ t.ents → (e.nd.left = 0 ∨ e.nd.left ∈ t.nodes) ∧ (e.nd.right = 0 ∨ e.nd.right ∈ t.nodes)
  | nil, e, h => by simp [ents] at h
  | node h kh vh m k v l r, e, he => by
    simp only [ents, List.mem_append, List.mem_cons] at he
    simp only [nodes, List.mem_append, List.mem_cons]
    rcases he with he | rfl | he
    · obtain ⟨h1, h2⟩ := ents_sides l e he
      exact ⟨h1.imp_right .inl, h2.imp_right .inl⟩
    · exact ⟨(root_nodes l).imp_right .inl, (root_nodes r).imp_right fun h => .inr (.inr h)⟩
    · obtain ⟨h1, h2⟩ := ents_sides r e he
      exact ⟨h1.imp_right fun h => .inr (.inr h), h2.imp_right fun h => .inr (.inr h)⟩
theorem side_at {t : BT} (ht : t.At R) : sideR R t.root = some t.size := by
  unfold sideR
  cases t with
  | nil => rfl
  | node h kh vh m k v l r =>
    obtain ⟨h1, h2, _⟩ := ht
    obtain ⟨e1, e2⟩ := nodeR_at h2
    rw [root, if_neg h1, if_neg (by simp [e1]), e2]
    rfl
theorem ents_at : ∀ (t : BT), t.At R → t.size < 18446744073709551616 → ∀ e ∈ t.ents, e.At R
  | nil, _, _, e, he => by simp [ents] at he
  | node h kh vh m k v l r, ht, hs, e, he => by
    obtain ⟨h1, h2, h3, h4, h5, h6, hl, hr⟩ := ht
    simp only [size] at hs
    simp only [ents, List.mem_append, List.mem_cons] at he
    rcases he with he | rfl | he
    · exact ents_at l hl (by omega) e he
    · refine ⟨h2, h3, h4, h5, h6, ?_⟩
      have e1 : fitAcc R ⟨kh, vh, l.root, r.root, m, l.size + 1 + r.size⟩ 2 = some (l.size + 1 + r.size) := by
        simp only [fitAcc, Nd.side, if_true, Option.bind_some]
        rw [side_at hl]
        simp only [Option.map_some, Option.bind_some, Nat.one_ne_zero, if_false]
        rw [side_at hr]
        simp only [Option.map_some, Option.some.injEq]
        omega
      unfold fitsR
      rw [e1]
      simp
    · exact ents_at r hr (by omega) e he
end BT
section
variable {R : Nat → Option (List Nat)}
theorem chk3_some : ∀ (l S : List Nat), (S ++ l).Nodup → chk3 S l = some (S ++ l)
  | [], S, _ => by simp [chk3]
  | x :: t, S, h => by
    have hx : x ∉ S := fun hx => by
      rw [List.nodup_append] at h
      exact h.2.2 x hx x (by simp) rfl
    rw [chk3, if_neg hx, chk3_some t (S ++ [x]) (by simpa using h)]
    simp
theorem chk_fold : ∀ (es : List En) (c : Cst), (∀ e ∈ es, e.At R) → (es.map (fun e => (e.k, e.v))).Pairwise (fun a b => Tx.cmp a.1 b.1 < 0) → (c.first = true ∨ ∀ e ∈ es, Tx.cmp c.last e.k < 0) → (c.S ++ es.flatMap En.hs).Nodup →
    ∃ c', (es.map (·.h)).foldl (fun (c : Option Cst) h => c.bind fun c => c.step R h) (some c) = some c' ∧ c'.S = c.S ++ es.flatMap En.hs ∧ c'.sides = c.sides ++ es.flatMap (fun e => [e.nd.left, e.nd.right])
  | [], c, _, _, _, _ => ⟨c, rfl, by simp, by simp⟩
  | e :: es, c, hat, hp, hl, hn => by
    obtain ⟨h1, h2, h3, h4, h5, h6⟩ := hat e (by simp)
    obtain ⟨p1, p2⟩ := En.At.pair h1 h2 h3 h4 h5
    obtain ⟨e1, e2⟩ := nodeR_at h1
    rw [List.map_cons, List.pairwise_cons] at hp
    rw [List.flatMap_cons] at hn
    have hn3 : (c.S ++ e.hs).Nodup := by
      rw [← List.append_assoc] at hn
      exact (List.nodup_append.1 hn).1
    have hbad : c.bad R e.h = false := by
      unfold Cst.bad
      rw [p1, p2, e2, h6]
      rcases hl with hf | hf
      · rw [hf]; rfl
      · have := hf e (by simp)
        simp; omega
    have hstep : c.step R e.h = some ⟨c.S ++ e.hs, e.k, false, c.sides ++ [e.nd.left, e.nd.right]⟩ := by
      unfold Cst.step
      rw [if_neg (by simp [hbad]), e2, p2, show [e.h, e.nd.key, e.nd.val] = e.hs from rfl, chk3_some _ _ hn3]
      rfl
    obtain ⟨c', q1, q2, q3⟩ := chk_fold es ⟨c.S ++ e.hs, e.k, false, c.sides ++ [e.nd.left, e.nd.right]⟩ (fun x hx => hat x (by simp [hx])) hp.2 (.inr fun x hx => hp.1 _ (List.mem_map.2 ⟨x, hx, rfl⟩)) (by rw [List.append_assoc]; exact hn)
    refine ⟨c', ?_, ?_, ?_⟩
    · rw [List.map_cons, List.foldl_cons, Option.bind_some, hstep]
      exact q1
    · rw [q2, List.flatMap_cons, List.append_assoc]
    · rw [q3, List.flatMap_cons, List.append_assoc]
theorem BT.chk_at {t : BT} (ht : t.At R) (hr : Rising t.prs) (hn : t.hs.Nodup) (hs : t.size < 18446744073709551616) (root : Nat) :
    ∃ c, chkL R root t.nodes = some c ∧ c.S = t.hs ∧ c.sides = root :: t.ents.flatMap (fun e => [e.nd.left, e.nd.right]) := by
  obtain ⟨c, h1, h2, h3⟩ := chk_fold (R := R) t.ents ⟨[], ⟨#[]⟩, true, [root]⟩ (ents_at t ht hs) (by rw [ents_prs]; exact hr) (.inl rfl) (by rw [ents_hs]; exact hn)
  rw [ents_nodes] at h1
  exact ⟨c, h1, by rw [h2, ents_hs]; rfl, by rw [h3]; rfl⟩
theorem BT.check_at {t : BT} (ht : t.At R) (hr : Rising t.prs) (hn : t.hs.Nodup) {n : Nat} (hsz : t.size ≤ n / 8) (hs : t.size < 1000000) : checkR R n t.root = 0 := by
  unfold checkR
  by_cases h0 : t.root = 0
  · rw [if_pos h0]
  · rw [if_neg h0]
    have hrt : nodeE R t.root = 0 ∧ (nodeG R t.root).size = t.size := by
      cases t with
      | nil => exact absurd rfl h0
      | node h kh vh m k v l r =>
        obtain ⟨e1, e2⟩ := nodeR_at ht.2.1
        exact ⟨e1, by rw [BT.root, e2]; rfl⟩
    rw [if_neg (by simp [hrt.1]), inR_at ht hsz]
    obtain ⟨c, h1, h2, h3⟩ := BT.chk_at ht hr hn (by omega) t.root
    rw [h1]
    simp only
    rw [if_neg, if_neg]
    · rw [h2, hs_len, hrt.2]
      omega
    · rw [h3, h2, List.any_eq_true]
      rintro ⟨y, hy, h9⟩
      have hin : y = 0 ∨ y ∈ t.nodes := by
        rcases List.mem_cons.1 hy with rfl | hy
        · exact root_nodes t
        · obtain ⟨e, he, hye⟩ := List.mem_flatMap.1 hy
          obtain ⟨g1, g2⟩ := ents_sides t e he
          rcases List.mem_cons.1 hye with rfl | hye
          · exact g1
          · rcases List.mem_cons.1 hye with rfl | hye
            · exact g2
            · simp at hye
      rcases hin with rfl | hin
      · simp at h9
      · have := nodes_hs t y hin
        simp [this] at h9
end
end Go.Proofs.YtjpmlneihbckpaaGreatDoor

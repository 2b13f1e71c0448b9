/-
  The seat's own texts, part xf: Live.
-/
import Derived.Test.YtjcpclcmnhpgpaaGreatDoorFMk
import Derived.Test.YtjcpclcmnhpgpaaGreatDoorFMxb
import Derived.Maps.OwnIn
import Derived.Deep.DeepMust

set_option linter.unusedVariables false
set_option linter.unusedSimpArgs false
namespace Go.Proofs.YtjcpclcmnhpgpaaGreatDoor
open Go.RowKit Go.Shelf
attribute [local go_sem] Oper.semAt_some wide_fn
def rowsOf (l : List (Nat × Nat)) : List Value := l.map fun b => .int .i64 (b.1 : Nat)
def OutE (B : Nat) (W : World) (k : Nat) : Prop := k = B ∨ ∃ m c, W.cell? ⟨B, 0, none⟩ = some (.slice (some ⟨k, 0, none⟩) m c)
def LiveI (w : World) (l : List (Nat × Nat)) (W : World) : Prop := ∃ v, Boxed W w.heap.size 49 v ∧ W.ownsRow w.heap.size 3 1 v l.length (rowsOf l) ∧ Below w.heap.size w W
theorem LiveI.below {w X Y : World} {l : List (Nat × Nat)} (h : LiveI w l X) (hb : Below X.heap.size X Y) : LiveI w l Y := by
  obtain ⟨v, h1, h2, h3⟩ := h
  exact ⟨v, (hb.block _ h1.lt).trans h1, ownsRow_kb (Cs := fun _ => False) h2 (KB.below hb) (fun _ h => h.elim), h3.trans (hb.mono h3.size)⟩
structure BoxOff (W : World) (B3 B : Nat) : Prop where
  ne : B ≠ B3
  off : ∃ u, W.cell? ⟨B3, 0, none⟩ = some u ∧ u.ownBlock ≠ some B
theorem BoxOff.not {W : World} {B3 B : Nat} (h : BoxOff W B3 B) : ¬ OutE B3 W B := by
  rintro (h1 | ⟨m, c, h1⟩)
  · exact h.ne h1
  · obtain ⟨u, h2, h3⟩ := h.off
    rw [h1] at h2
    simp only [Option.some.injEq] at h2
    subst h2
    exact h3 (by simp [Value.ownBlock])
theorem BoxOff.kept {W W' : World} {B3 B : Nat} {row : Option Nat} (h : BoxOff W B3 B) (hg : W.grownBy W' row) (hr : ∀ r, row = some r → ∃ o : Obj, W.heap[r]? = some o ∧ o.isCells = false) : BoxOff W' B3 B := by
  obtain ⟨u, h2, h3⟩ := h.off
  exact ⟨h.ne, u, cell_kept h2 hg hr, h3⟩
theorem BoxOff.below {W W' : World} {B3 B : Nat} (h : BoxOff W B3 B) (hb : Below W.heap.size W W') : BoxOff W' B3 B :=
  h.kept (row := none) ⟨hb.os, hb.tape, hb.output, hb.size, fun k hk _ => hb.block k hk⟩ (fun r e => by cases e)
theorem HdBox.below {W W' : World} {B : Nat} {h : Hd} (hx : HdBox W B h) (hb : Below W.heap.size W W') : HdBox W' B h :=
  hx.kept (row := none) ⟨hb.os, hb.tape, hb.output, hb.size, fun k hk _ => hb.block k hk⟩ (fun r e => by cases e)
theorem HdBox.ke {W W' : World} {B B3 : Nat} {h : Hd} (hx : HdBox W B h) (hk : KE (OutE B3) W W') (ho : BoxOff W B3 B) : HdBox W' B h :=
  ⟨hk.kb.cell hx.k ho.not, hk.kb.cell hx.n ho.not, hk.kb.cell hx.w ho.not⟩
end Go.Proofs.YtjcpclcmnhpgpaaGreatDoor

/-
  The seat's own texts, part xa: Own3.
-/
import Derived.Test.YtjcpclcmnhpgpaaGreatDoorFMy
import Derived.Test.YtjcpclcmnhpgpaaGreatDoorFMz

set_option linter.unusedVariables false
set_option linter.unusedSimpArgs false
namespace Go.Proofs.YtjcpclcmnhpgpaaGreatDoor
open Go.RowKit Go.Shelf
def ApartV (v u : Value) : Prop := ∀ b, v.ownBlock = some b → u.ownBlock ≠ some b
theorem ApartV.symm {v u : Value} (h : ApartV v u) : ApartV u v := fun b hb hv => h b hv hb
structure Own3 (W : World) (B : Nat) (v1 : Value) (l1 : List Nat) (v2 : Value) (l2 : List Nat) (v3 : Value) (l3 : List Nat) : Prop where
  r1 : W.ownsRow B 31 1 v1 l1.length (hsV l1)
  r2 : W.ownsRow B 31 1 v2 l2.length (hsV l2)
  r3 : W.ownsRow B 31 1 v3 l3.length (hsV l3)
  a12 : ApartV v1 v2
  a13 : ApartV v1 v3
  a23 : ApartV v2 v3
section
variable {W W' : World} {B : Nat} {v1 v2 v3 : Value} {l1 l2 l3 : List Nat}
theorem Own3.flip12 (h : Own3 W B v1 l1 v2 l2 v3 l3) : Own3 W B v2 l2 v1 l1 v3 l3 := ⟨h.r2, h.r1, h.r3, h.a12.symm, h.a23, h.a13⟩
theorem Own3.flip13 (h : Own3 W B v1 l1 v2 l2 v3 l3) : Own3 W B v3 l3 v2 l2 v1 l1 := ⟨h.r3, h.r2, h.r1, h.a23.symm, h.a13.symm, h.a12.symm⟩
theorem Own3.nil (W : World) (B : Nat) : Own3 W B (.slice none 0 0) [] (.slice none 0 0) [] (.slice none 0 0) [] :=
  ⟨World.ownsRow_nil _ _ _ _, World.ownsRow_nil _ _ _ _, World.ownsRow_nil _ _ _ _, fun b hb => by simp [Value.ownBlock] at hb, fun b hb => by simp [Value.ownBlock] at hb, fun b hb => by simp [Value.ownBlock] at hb⟩
theorem row_keep {v : Value} {n : Nat} {xs : List Value} {z : Nat} {e : TypeId} (h : W.ownsRow B e z v n xs) (hk : ∀ b, v.ownBlock = some b → W'.heap[b]? = W.heap[b]?) : W'.ownsRow B e z v n xs := by
  refine ⟨h.1, ?_⟩
  rcases h.2 with h1 | ⟨g, cap, cur, h1, h2, h3, h4⟩
  · exact .inl h1
  · exact .inr ⟨g, cap, cur, h1, h2, (hk g (by rw [h1]; simp [Value.ownBlock])).trans h3, h4⟩
theorem row_ge {v : Value} {n b : Nat} {xs : List Value} {z : Nat} {e : TypeId} (h : W.ownsRow B e z v n xs) (hb : v.ownBlock = some b) : B ≤ b ∧ b < W.heap.size := by
  rcases h.2 with ⟨h1, _⟩ | ⟨g, cap, cur, h1, h2, h3, h4⟩
  · rw [h1] at hb; simp [Value.ownBlock] at hb
  · rw [h1] at hb
    have : g = b := by simpa [Value.ownBlock] using hb
    subst this
    exact ⟨h2, (Array.getElem?_eq_some_iff.1 h3).1⟩
theorem Own3.keep (h : Own3 W B v1 l1 v2 l2 v3 l3) (hk : ∀ b, B ≤ b → b < W.heap.size → W'.heap[b]? = W.heap[b]?) : Own3 W' B v1 l1 v2 l2 v3 l3 :=
  ⟨row_keep h.r1 (fun b hb => hk b (row_ge h.r1 hb).1 (row_ge h.r1 hb).2), row_keep h.r2 (fun b hb => hk b (row_ge h.r2 hb).1 (row_ge h.r2 hb).2), row_keep h.r3 (fun b hb => hk b (row_ge h.r3 hb).1 (row_ge h.r3 hb).2), h.a12, h.a13, h.a23⟩
theorem Own3.below (h : Own3 W B v1 l1 v2 l2 v3 l3) (hb : Below W.heap.size W W') : Own3 W' B v1 l1 v2 l2 v3 l3 := h.keep fun b _ hlt => hb.block b hlt
theorem Own3.set (h : Own3 W B v1 l1 v2 l2 v3 l3) {b j : Nat} (hb : b < B) (v : Value) : Own3 (W.setCell ⟨b, j, none⟩ v) B v1 l1 v2 l2 v3 l3 := h.keep fun k hk _ => Below.heap_setCell W ⟨b, j, none⟩ v k (by simp only; omega)
theorem Own3.app1 {w1 : World} {tmp : Obj} {v' : Value} {x : Nat} (h : Own3 W B v1 l1 v2 l2 v3 l3) (hown : w1.ownsRow B 31 1 v' (l1 ++ [x]).length (hsV (l1 ++ [x]))) (hg : (W.alloc tmp).grownBy w1 v1.ownBlock) (hblk : v'.ownBlock = v1.ownBlock ∨ v'.ownBlock = some (W.alloc tmp).heap.size) :
    Own3 w1 B v' (l1 ++ [x]) v2 l2 v3 l3 := by
  have hk : ∀ (u : Value) (l : List Nat), W.ownsRow B 31 1 u l.length (hsV l) → ApartV v1 u → w1.ownsRow B 31 1 u l.length (hsV l) ∧ ApartV v' u := fun u l hu ha => by
    refine ⟨row_keep hu fun b hb => ?_, fun b hb he => ?_⟩
    · have hlt := (row_ge hu hb).2
      exact (hg.block b (by simp; omega) (fun e => ha b e.symm hb)).trans (Below.heap_alloc W tmp b hlt)
    · rcases hblk with h1 | h1
      · rw [h1] at hb; exact ha b hb he
      · rw [h1] at hb
        have hlt := (row_ge hu he).2
        have : (W.alloc tmp).heap.size = b := by simpa using hb
        simp at this
        omega
  obtain ⟨k2, a2⟩ := hk v2 l2 h.r2 h.a12
  obtain ⟨k3, a3⟩ := hk v3 l3 h.r3 h.a13
  exact ⟨hown, k2, k3, a2, a3, h.a23⟩
theorem Own3.app2 {w1 : World} {tmp : Obj} {v' : Value} {x : Nat} (h : Own3 W B v1 l1 v2 l2 v3 l3) (hown : w1.ownsRow B 31 1 v' (l2 ++ [x]).length (hsV (l2 ++ [x]))) (hg : (W.alloc tmp).grownBy w1 v2.ownBlock) (hblk : v'.ownBlock = v2.ownBlock ∨ v'.ownBlock = some (W.alloc tmp).heap.size) :
    Own3 w1 B v1 l1 v' (l2 ++ [x]) v3 l3 := (h.flip12.app1 hown hg hblk).flip12
theorem Own3.app3 {w1 : World} {tmp : Obj} {v' : Value} {x : Nat} (h : Own3 W B v1 l1 v2 l2 v3 l3) (hown : w1.ownsRow B 31 1 v' (l3 ++ [x]).length (hsV (l3 ++ [x]))) (hg : (W.alloc tmp).grownBy w1 v3.ownBlock) (hblk : v'.ownBlock = v3.ownBlock ∨ v'.ownBlock = some (W.alloc tmp).heap.size) :
    Own3 w1 B v1 l1 v2 l2 v' (l3 ++ [x]) := (h.flip13.app1 hown hg hblk).flip13
theorem grown_block {w1 : World} {tmp : Obj} {v : Value} {n : Nat} {xs : List Value} {b : Nat} (hr : W.ownsRow B 31 1 v n xs) (hg : (W.alloc tmp).grownBy w1 v.ownBlock) (hb : b < B) (hB : b < W.heap.size) : w1.heap[b]? = W.heap[b]? :=
  (hg.block b (by simp; omega) (fun e => by have := (row_ge hr e.symm).1; omega)).trans (Below.heap_alloc W tmp b hB)
theorem grown_below {w w1 : World} {tmp : Obj} {v : Value} {n : Nat} {xs : List Value} {m : Nat} (h : Below m w W) (hm : m ≤ B) (hW : m ≤ W.heap.size) (hr : W.ownsRow B 31 1 v n xs) (hg : (W.alloc tmp).grownBy w1 v.ownBlock) : Below m w w1 :=
  (h.alloc hW tmp).trans ⟨hg.os, hg.tape, hg.output, hg.size, fun k hk => hg.block k (by simp; omega) (fun e => by have := (row_ge hr e.symm).1; omega)⟩
theorem row_cellsF {v : Value} {l : List Nat} {F : Nat → Prop} (h : W.ownsRow B 31 1 v l.length (hsV l)) (hF : ∀ b, F b → b < B) : ∃ A c, v = .slice A l.length c ∧ CellsF W F A (hsV l) := by
  rcases h.2 with ⟨h1, h2⟩ | ⟨g, cap, cur, h1, h2, h3, h4⟩
  · have : l = [] := List.eq_nil_of_length_eq_zero h2
    subst this
    exact ⟨none, 0, h1, .inl rfl⟩
  · refine ⟨_, _, h1, ?_⟩
    by_cases hl : l = []
    · subst hl; exact .inl rfl
    · refine .inr ⟨g, 0, rfl, (Array.getElem?_eq_some_iff.1 h3).1, fun hf => by have := hF g hf; omega, fun j u hu => ?_⟩
      have h9 := h.cells (g := g) (by rw [h1]; simp [Value.ownBlock]) j u hu
      rw [show (⟨g, 0, none⟩ : Addr).add j = ⟨g, j, none⟩ by unfold Addr.add; split <;> simp_all] at h9
      rw [Nat.zero_add]
      exact h9
theorem Own3.bnv (h : Own3 W B v1 l1 v2 l2 v3 l3) {F : Nat → Prop} (hF : ∀ b, F b → b < B) (sz : Nat) (h1 : l1.length ≤ 4398046511104) (h2 : l2.length ≤ 4398046511104) (h3 : l3.length ≤ 4398046511104) : BNV W F (.agg #[v1, v2, v3, .int .u64 (sz : Nat)]) ⟨l1, l2, l3, sz⟩ := by
  obtain ⟨A1, c1, rfl, k1⟩ := row_cellsF h.r1 hF
  obtain ⟨A2, c2, rfl, k2⟩ := row_cellsF h.r2 hF
  obtain ⟨A3, c3, rfl, k3⟩ := row_cellsF h.r3 hF
  exact ⟨⟨A1, c1, A2, c2, A3, c3, rfl, k1, k2, k3⟩, h1, h2, h3⟩
end
end Go.Proofs.YtjcpclcmnhpgpaaGreatDoor

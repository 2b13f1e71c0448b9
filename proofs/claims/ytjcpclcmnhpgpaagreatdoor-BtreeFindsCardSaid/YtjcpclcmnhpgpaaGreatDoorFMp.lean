/-
  The seat's own texts, part p: TxEqual.
-/
import Derived.Test.YtjcpclcmnhpgpaaGreatDoorFMa
import Derived.Test.YtjcpclcmnhpgpaaGreatDoorChecked
import Derived.WalkKit
import Derived.Below
import Derived.WalkLawsBesides
import Derived.WalkSpells
import Derived.Deep.Draws
import Derived.Lib.Hide

set_option linter.unusedVariables false
namespace Go.Proofs.YtjcpclcmnhpgpaaGreatDoor.Tx
open Go.RowKit
theorem ret_bool {a b : Bool} (h : a = b) : Ending.returned (.bool a) = Ending.returned (.bool b) := by rw [h]
theorem ret_int {k : IntKind} {a b : Int} (h : a = b) : Ending.returned (.int k a) = Ending.returned (.int k b) := by rw [h]
def U64s (w : World) (A : Option Addr) (l : List Nat) : Prop :=
  l = [] ∨ ∃ b o, A = some ⟨b, o, none⟩ ∧ b < w.heap.size ∧ ∀ j, j < l.length → w.cell? ⟨b, o + j, none⟩ = some (.int .u64 (l[j]?.getD 0 : Nat))
theorem U64s.below {w w' : World} {A : Option Addr} {l : List Nat} (h : U64s w A l) (hb : Below w.heap.size w w') : U64s w' A l := by
  rcases h with h | ⟨b, o, rfl, hlt, hc⟩
  · exact .inl h
  · exact .inr ⟨b, o, rfl, Nat.lt_of_lt_of_le hlt hb.size, fun j hj => (hb.cell (p := ⟨b, o + j, none⟩) hlt).trans (hc j hj)⟩
theorem drewN_below (w : World) (k : Nat) : Below w.heap.size w (w.drewN k) := ⟨rfl, rfl, rfl, Nat.le_refl _, fun _ _ => rfl⟩
theorem list_step {l l' : List Nat} {k : Nat} (h : ∀ j, j < k → l[j]?.getD 0 = l'[j]?.getD 0) (hk : l[k]?.getD 0 = l'[k]?.getD 0) : ∀ j, j < k + 1 → l[j]?.getD 0 = l'[j]?.getD 0 := by
  intro j hj
  by_cases e : j = k
  · subst e; exact hk
  · exact h j (by omega)
theorem list_all {l l' : List Nat} (hl : l.length = l'.length) (h : ∀ j, j < l.length → l[j]?.getD 0 = l'[j]?.getD 0) : l = l' := by
  refine List.ext_getElem hl fun j h1 h2 => ?_
  have := h j h1
  simpa [h1, h2] using this
set_option maxRecDepth 100000 in
theorem equal_any (A A' : Option Addr) (c c' : Nat) (l l' : List Nat) (w : World) (hl : l.length ≤ 9223372036854775807) (hl' : l'.length ≤ 9223372036854775807) (h : U64s w A l) (h' : U64s w A' l') :
    Calls Tryz.prog 103 #[.slice A l.length c, .slice A' l'.length c'] w fun e w' => e = .returned (.bool (decide (l = l'))) ∧ ∃ k, w' = w.drewN k := by
  by_cases hlen : l.length = l'.length
  · have hH := Lib.hid h
    have hH' := Lib.hid h'
    obtain ⟨n, hn⟩ : ∃ n, n = l.length := ⟨_, rfl⟩
    have hn' : n = l'.length := hn.trans hlen
    rw [← hn, ← hn']
    rw [← hn] at hl
    have hnH := Lib.hid hn
    have hnH' := Lib.hid hn'
    clear hn hn' hlen h h' hl'
    go_enter Tryz.func103, Tryz.ntmps103
    go_wp2
    go_loopw [13] (fun i wr => ∃ k d : Nat, k ≤ n ∧ i = .int .i64 k ∧ wr = w.drewN d ∧ Hid (∀ j, j < k → l[j]?.getD 0 = l'[j]?.getD 0)) (fun i _ => n - (intOf i).toNat)
    case atStart => exact ⟨0, 0, Nat.zero_le _, rfl, rfl, fun j hj => absurd hj (by omega)⟩
    case round =>
      obtain ⟨k, d, hk, rfl, rfl, hall⟩ := hrel
      by_cases hlt : k < n
      · obtain ⟨b, o, rfl, -, hc⟩ : ∃ b o, A = some ⟨b, o, none⟩ ∧ b < w.heap.size ∧ ∀ j, j < l.length → w.cell? ⟨b, o + j, none⟩ = some (.int .u64 (l[j]?.getD 0 : Nat)) := by
          rcases hH.out with e | e
          · have := hnH.out; rw [e] at this; simp at this; omega
          · exact e
        obtain ⟨b', o', rfl, -, hc'⟩ : ∃ b o, A' = some ⟨b, o, none⟩ ∧ b < w.heap.size ∧ ∀ j, j < l'.length → w.cell? ⟨b, o + j, none⟩ = some (.int .u64 (l'[j]?.getD 0 : Nat)) := by
          rcases hH'.out with e | e
          · have := hnH'.out; rw [e] at this; simp at this; omega
          · exact e
        have h1 := hc k (by rw [← hnH.out]; exact hlt)
        have h2 := hc' k (by rw [← hnH'.out]; exact hlt)
        have hxx : ∃ x, x = l[k]?.getD 0 := ⟨_, rfl⟩
        have hyy : ∃ y, y = l'[k]?.getD 0 := ⟨_, rfl⟩
        obtain ⟨x, hx⟩ := hxx
        obtain ⟨y, hy⟩ := hyy
        rw [← hx] at h1
        rw [← hy] at h2
        have HX := Lib.hid hx
        have HY := Lib.hid hy
        clear hx hy hc hc'
        have hli : (k : Int) < (n : Int) := by omega
        by_cases hxy : x = y
        · have hb : ((x : Int) != (y : Int)) = false := by simp [hxy]
          go_wp2_with fail
          go_quiet (fail)
          go_wp2
          go_roundw
          case rel => exact ⟨k + 1, _, by omega, by go_num, rfl, list_step hall.out (by rw [← HX.out, ← HY.out]; exact hxy)⟩
          case measure => simp [intOf]; omega
        · have hb : ((x : Int) != (y : Int)) = true := by simp; omega
          go_wp2_with fail
          go_quiet (fail)
          go_wp2
          go_ret
          refine ⟨?_, d + nq, by rw [World.drewN_drewN]⟩
          have : ¬ l = l' := fun e => hxy (by rw [HX.out, HY.out, e])
          simp [this]
      · have hkn : k = n := by omega
        have hend : l = l' := list_all (by rw [← hnH.out, ← hnH'.out]) (fun j hj => hall.out j (by rw [hkn, hnH.out]; exact hj))
        have hendH := Lib.hid hend
        clear hend hall
        subst hkn
        go_wp2
        go_ret
        exact ⟨ret_bool (decide_eq_true hendH.out).symm, d, rfl⟩
  · have hne : ¬ l = l' := fun e => hlen (by rw [e])
    have hb : ((l.length : Int) != (l'.length : Int)) = true := by simp; omega
    have hneH := Lib.hid hne
    clear hne h h'
    go_enter Tryz.func103, Tryz.ntmps103
    go_wp2
    go_ret
    exact ⟨ret_bool (decide_eq_false hneH.out).symm, 0, rfl⟩
end Go.Proofs.YtjcpclcmnhpgpaaGreatDoor.Tx

/-
  The seat's own texts, part xg: AllS.
-/
import Derived.Test.YtjcpclcmnhpgpaaGreatDoorFMm
import Derived.Test.YtjcpclcmnhpgpaaGreatDoorFMxf
import Derived.Deep.Onto
import Derived.Maps.AppendAt

set_option linter.unusedVariables false
set_option linter.unusedSimpArgs false
namespace Go.Proofs.YtjcpclcmnhpgpaaGreatDoor
open Go.RowKit Go.Shelf
theorem Tryz.under_handles : Tryz.prog.underlying 51 = some (.slice 31) := by kernel_rfl
theorem Tryz.info_handle : (Tryz.prog.info? 31).map (fun i => (i.zero, i.size, i.bytes)) = some (some (.int .u64 0), 1, 8) := by kernel_rfl
theorem ownBlock_low {W : World} {N : Nat} {e : TypeId} {v : Value} {n : Nat} {xs : List Value} (h : W.ownsRow N e 1 v n xs) (r : Nat) (hr : v.ownBlock = some r) : N ≤ r := by
  rcases h.2 with ⟨rfl, _⟩ | ⟨g, cap, cur, rfl, hb, _⟩
  · simp [Value.ownBlock] at hr
  · have : g = r := by simpa [Value.ownBlock] using hr
    omega
section
variable {w w' : World} {s : Nat} {F : Nat → Prop} {R : Nat → Option (List Nat)} {H : List Nat} {P q most last G : Nat}
end
end Go.Proofs.YtjcpclcmnhpgpaaGreatDoor

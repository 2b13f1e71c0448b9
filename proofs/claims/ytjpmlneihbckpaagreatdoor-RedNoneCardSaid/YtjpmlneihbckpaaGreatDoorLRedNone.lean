/-
  The seat's own texts, what RedNone wants besides: None13.
-/
import Derived.Test.YtjpmlneihbckpaaGreatDoorNd
/- Package redblack without a store; loftlaw13.RedNone: the walk. -/
set_option linter.unusedVariables false
set_option linter.unusedSimpArgs false
namespace Go.Proofs.YtjpmlneihbckpaaGreatDoor
open Go.RowKit Go.Shelf
set_option maxRecDepth 100000 in
theorem rbTop_nil (l m r : Nat) (w : World) : Calls Tryz.prog 24 #[.pointer none, .int .u64 (l : Nat), .int .u64 (m : Nat), .int .u64 (r : Nat)] w fun e w' => e = .returned (.tuple #[.int .u64 0, .int .i64 1]) ∧ w = w' := by
  go_enter Tryz.func24, Tryz.ntmps24
  go_wp2_with (go_at_call 51; refine (slen_nil _ _).mono ?_; rintro e w' ⟨rfl, rfl⟩)
  go_ret2
  exact ⟨rfl, rfl⟩
set_option maxRecDepth 100000 in
theorem rbCheck_nil (x : Nat) (w : World) : Calls Tryz.prog 21 #[.pointer none, .int .u64 (x : Nat)] w fun e w' => e = .returned (.int .i64 1) ∧ Below w.heap.size w w' := by
  have hC := Lib.hid (check_nil x w)
  go_enter Tryz.func21, Tryz.ntmps21
  go_wp2_with fail
  refine hC.out.mono ?_
  rintro e w1 ⟨rfl, hb⟩
  have hbH := Lib.hid hb
  clear hb
  go_wp2
  go_ret
  exact ⟨rfl, hbH.out⟩
set_option maxRecDepth 100000 in
theorem tblack_nil (x : Nat) (w : World) : Calls Tryz.prog 20 #[.pointer none, .int .u64 (x : Nat)] w fun e w' => e = .returned (.tuple #[.int .i64 0, .bool false]) ∧ w = w' := by
  go_enter Tryz.func20, Tryz.ntmps20
  go_wp2_with (go_at_call 51; refine (slen_nil _ _).mono ?_; rintro e w' ⟨rfl, rfl⟩)
  go_ret2
  exact ⟨rfl, rfl⟩
set_option maxHeartbeats 4000000 in
set_option maxRecDepth 100000 in
theorem none13_main {w : World} (hT : Tab w) (a b c : Nat) (ha : a < 18446744073709551616) (hb : b < 18446744073709551616) (hc : c < 18446744073709551616) :
    Calls Tryz.prog 4 #[.int .u64 (a : Nat), .int .u64 (b : Nat), .int .u64 (c : Nat)] w (TrueB w) := by
  have hN := Lib.hid (snew_at hT 640 9 9 (by omega) (by omega) (by omega) (by omega) (by omega))
  have hTH := Lib.hid hT
  clear hT
  unfold TrueB
  go_enter Tryz.func4, Tryz.ntmps4
  go_wp2_with fail
  refine hN.out.mono ?_
  rintro e w1 ⟨s, F, rfl, hS, hs1, hF1, hb1⟩
  have hJ := rbTop_at hS a b c ha hb hc
  have hno : rbJ (fun _ => none) a b c = (fun _ => none, 0, 8) := rbJ_no (fun h => by
    have h1 := h.2.2.1
    unfold isR at h1
    have h2 : nodeE (fun _ => none) b = 7 := rfl
    rw [h2] at h1
    have h3 : b = 0 := by simpa using h1
    exact h.1 h3)
  rw [hno] at hJ
  have hJH := Lib.hid hJ
  have hN1 := Lib.hid (rbTop_nil a b c w1)
  have hb1H := Lib.hid hb1
  have hF1H := Lib.hid hF1
  clear hb1 hF1 hS hN hJ hno
  go_wp2_with fail
  refine hN1.out.mono ?_
  rintro e w1' ⟨rfl, rfl⟩
  go_wp2_with fail
  refine hJH.out.mono ?_
  rintro e w2 ⟨rfl, hS2, hT2⟩
  have hb2H := Lib.hid (hb1H.out.trans (hT2.to_below hb1H.out.size hF1H.out))
  have hCn := Lib.hid (rbCheck_nil a w2)
  have hBn := Lib.hid (tblack_nil a w2)
  obtain ⟨n2, hTR, -⟩ := treeIn hS2 (fun x ws e => by cases e) rfl (t := .nil) trivial rfl List.Pairwise.nil List.nodup_nil
  have hC0 := fun W (hb : Below w2.heap.size w2 W) => trbCheck_at (hTR.below hb) trivial
  rw [show ((BT.root .nil : Nat) : Int) = 0 from rfl] at hC0
  have hC0H := Lib.hid hC0
  clear hS2 hT2 hTR hC0 hJH
  go_wp2_with fail
  refine hBn.out.mono ?_
  rintro e w2' ⟨rfl, rfl⟩
  go_wp2_with fail
  refine hCn.out.mono ?_
  rintro e w5 ⟨rfl, hb5⟩
  have hb5H := Lib.hid hb5
  clear hb5 hCn
  go_wp2_with fail
  refine (hC0H.out _ hb5H.out).mono ?_
  rintro e w6 ⟨rfl, hb6⟩
  have hb6H := Lib.hid (hb2H.out.trans ((hb5H.out.trans (hb6.mono hb5H.out.size)).mono hb2H.out.size))
  have hAw := Lib.hid (awake13_at (hTH.out.below hb6H.out (tab_lt hTH.out)))
  clear hb6
  go_wp2_with fail
  refine hAw.out.mono ?_
  rintro e w7 ⟨rfl, hb7⟩
  have hb7H := Lib.hid (hb6H.out.trans (hb7.mono hb6H.out.size))
  clear hb7
  go_wp2
  go_ret
  exact ⟨rfl, hb7H.out⟩
end Go.Proofs.YtjpmlneihbckpaaGreatDoor

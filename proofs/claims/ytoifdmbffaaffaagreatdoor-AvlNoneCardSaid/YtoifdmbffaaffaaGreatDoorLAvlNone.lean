/-
  The seat's own texts, what AvlNone wants besides: None12.
-/
import Derived.Test.YtoifdmbffaaffaaGreatDoorNc
/- Package avl without a store; loftlaw12.AvlNone: the walk. -/
set_option linter.unusedVariables false
set_option linter.unusedSimpArgs false
namespace Go.Proofs.YtoifdmbffaaffaaGreatDoor
open Go.RowKit Go.Shelf
set_option maxRecDepth 100000 in
theorem avHeight_nil (x : Nat) (w : World) : Calls Tryz.prog 18 #[.pointer none, .int .u64 (x : Nat)] w fun e w' => e = .returned (.int .i64 0) ∧ Below w.heap.size w w' := by
  have hG := Lib.hid (nget_nil x w)
  go_enter Tryz.func18, Tryz.ntmps18
  go_wp2_with fail
  refine hG.out.mono ?_
  unfold Nd.v Nd.zero
  rintro e w1 ⟨rfl, hb⟩
  have hbH := Lib.hid hb
  have hz1 := hb.size
  clear hb
  go_wp2
  go_ret
  exact ⟨rfl, hbH.out.alloc hz1 _⟩
set_option maxRecDepth 100000 in
theorem avTop_nil (l m r : Nat) (w : World) : Calls Tryz.prog 16 #[.pointer none, .int .u64 (l : Nat), .int .u64 (m : Nat), .int .u64 (r : Nat)] w fun e w' => e = .returned (.tuple #[.int .u64 0, .int .i64 1]) ∧ w = w' := by
  go_enter Tryz.func16, Tryz.ntmps16
  go_wp2_with (go_at_call 52; refine (slen_nil _ _).mono ?_; rintro e w' ⟨rfl, rfl⟩)
  go_ret2
  exact ⟨rfl, rfl⟩
set_option maxRecDepth 100000 in
theorem avCheck_nil (x : Nat) (w : World) : Calls Tryz.prog 17 #[.pointer none, .int .u64 (x : Nat)] w fun e w' => e = .returned (.int .i64 1) ∧ Below w.heap.size w w' := by
  have hC := Lib.hid (check_nil x w)
  go_enter Tryz.func17, Tryz.ntmps17
  go_wp2_with fail
  refine hC.out.mono ?_
  rintro e w1 ⟨rfl, hb⟩
  have hbH := Lib.hid hb
  clear hb
  go_wp2
  go_ret
  exact ⟨rfl, hbH.out⟩
set_option maxHeartbeats 4000000 in
set_option maxRecDepth 100000 in
theorem none12_main {w : World} (hT : Tab w) (a b c : Nat) (ha : a < 18446744073709551616) (hb : b < 18446744073709551616) (hc : c < 18446744073709551616) :
    Calls Tryz.prog 3 #[.int .u64 (a : Nat), .int .u64 (b : Nat), .int .u64 (c : Nat)] w (TrueB w) := by
  have hN := Lib.hid (snew_at hT 640 9 9 (by omega) (by omega) (by omega) (by omega) (by omega))
  have hTH := Lib.hid hT
  clear hT
  unfold TrueB
  go_enter Tryz.func3, Tryz.ntmps3
  go_wp2_with fail
  refine hN.out.mono ?_
  rintro e w1 ⟨s, F, rfl, hS, hs1, hF1, hb1⟩
  have hJ := avTop_at hS a b c ha hb hc
  have hno : avTop (fun _ => none) a b c = (fun _ => none, 0, 8) := avTop_no (fun h => by
    have h1 := h.2.2.1
    unfold isR at h1
    have h2 : nodeE (fun _ => none) b = 7 := rfl
    rw [h2] at h1
    have h3 : b = 0 := by simpa using h1
    exact h.1 h3)
  rw [hno] at hJ
  have hJH := Lib.hid hJ
  have hN1 := Lib.hid (avTop_nil a b c w1)
  have hb1H := Lib.hid hb1
  have hF1H := Lib.hid hF1
  clear hb1 hF1 hS hN hJ hno
  go_wp2_with fail
  refine hN1.out.mono ?_
  rintro e w1' ⟨rfl, rfl⟩
  go_wp2_with fail
  refine hJH.out.mono ?_
  rintro e w2 ⟨rfl, hS2, hT2⟩
  have hb2H := Lib.hid (hb1H.out.trans (hT2.to_below hb1H.out.size hF1H.out))
  have hCn := Lib.hid (avCheck_nil a w2)
  have hHn := Lib.hid (fun W => avHeight_nil a W)
  obtain ⟨n2, hTR, -⟩ := treeIn hS2 (fun x ws e => by cases e) rfl (t := .nil) trivial rfl List.Pairwise.nil List.nodup_nil
  have hH0 := fun W (hb : Below w2.heap.size w2 W) => tavHeight_at (hTR.below hb).rd rfl (t := .nil) trivial trivial (by simp [BT.size])
  have hC0 := fun W (hb : Below w2.heap.size w2 W) => tavCheck_at (hTR.below hb) trivial
  rw [show ((BT.root .nil : Nat) : Int) = 0 from rfl, show (((BT.nil).hgt : Nat) : Int) = 0 from rfl] at hH0
  rw [show ((BT.root .nil : Nat) : Int) = 0 from rfl] at hC0
  have hH0H := Lib.hid hH0
  have hC0H := Lib.hid hC0
  clear hS2 hT2 hTR hH0 hC0 hJH
  go_wp2_with fail
  refine hCn.out.mono ?_
  rintro e w3 ⟨rfl, hb3⟩
  have hb3H := Lib.hid hb3
  clear hb3 hCn
  go_wp2_with fail
  refine (hHn.out w3).mono ?_
  rintro e w4 ⟨rfl, hb4⟩
  have hb4H := Lib.hid (hb3H.out.trans (hb4.mono hb3H.out.size))
  clear hb4 hHn
  go_wp2_with fail
  refine (hH0H.out _ hb4H.out).mono ?_
  rintro e w5 ⟨rfl, hb5⟩
  have hb5H := Lib.hid (hb4H.out.trans (hb5.mono hb4H.out.size))
  clear hb5
  go_wp2_with fail
  refine (hC0H.out _ hb5H.out).mono ?_
  rintro e w6 ⟨rfl, hb6⟩
  have hb6H := Lib.hid (hb2H.out.trans ((hb5H.out.trans (hb6.mono hb5H.out.size)).mono hb2H.out.size))
  have hAw := Lib.hid (awake12_at (hTH.out.below hb6H.out (tab_lt hTH.out)))
  clear hb6
  go_wp2_with fail
  refine hAw.out.mono ?_
  rintro e w7 ⟨rfl, hb7⟩
  have hb7H := Lib.hid (hb6H.out.trans (hb7.mono hb6H.out.size))
  clear hb7
  go_wp2
  go_ret
  exact ⟨rfl, hb7H.out⟩
end Go.Proofs.YtoifdmbffaaffaaGreatDoor

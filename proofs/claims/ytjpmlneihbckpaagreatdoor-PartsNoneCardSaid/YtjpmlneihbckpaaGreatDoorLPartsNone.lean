/-
  The seat's own texts, what PartsNone wants besides: PaN, None14.
-/
import Derived.Test.YtjpmlneihbckpaaGreatDoorPe
import Derived.Laws.MakeOwn
import Derived.Laws.BytesArg
import Derived.Deep.OwnRows
/- parts' calls that something stands against. -/
set_option linter.unusedVariables false
set_option linter.unusedSimpArgs false
namespace Go.Proofs.YtjpmlneihbckpaaGreatDoor
open Go.RowKit Go.Shelf
set_option maxHeartbeats 2000000 in
set_option maxRecDepth 100000 in
theorem paSplit_nil {w : World} (k : Int) (x : Nat) (key : ByteArray) : Calls Tryz.prog 37 #[.pointer none, .int .i64 k, .int .u64 (x : Nat), .string key] w fun e w' => e = .returned (.tuple #[.int .u64 0, .int .u64 0, .int .u64 0, .int .i64 1]) ∧ Below w.heap.size w w' := by
  obtain ⟨W0, hW0⟩ : ∃ W, W = w.alloc (Obj.cells #[.int .u64 (x : Nat)] 32) := ⟨_, rfl⟩
  have hX0 : Box W0 w.heap.size 32 [.int .u64 (x : Nat)] := by rw [hW0]; exact Box.new w 32 [.int .u64 (x : Nat)]
  have hb0 : Below w.heap.size w W0 := by rw [hW0]; exact (Below.refl _ w).alloc (Nat.le_refl _) _
  have hAsk := Lib.hid (paAsk_nil k key (some ⟨w.heap.size, 0, none⟩) 1 1 W0)
  have hb0H := Lib.hid hb0
  have hW0H := Lib.hid hW0
  clear hX0 hb0 hW0
  unfold cut0 at hAsk
  go_enter Tryz.func37, Tryz.ntmps37
  go_wp2_with fail
  rw [← hW0H.out]
  refine hAsk.out.mono ?_
  rintro e W1 ⟨rfl, hb⟩
  have hB1H := Lib.hid (hb0H.out.trans (hb.mono hb0H.out.size))
  have hz1 := hB1H.out.size
  clear hb hAsk
  go_wp2
  refine bodyPost_ret (v := .tuple #[.int .u64 0, .int .u64 0, .int .u64 0, .int .i64 1]) (by simp [results, Tryz.f37, go_sem]) rfl ⟨rfl, hB1H.out.alloc hz1 _⟩
set_option maxHeartbeats 2000000 in
set_option maxRecDepth 100000 in
theorem paConcat_nil {w : World} (k : Int) (x y : Nat) : Calls Tryz.prog 39 #[.pointer none, .int .i64 k, .int .u64 (x : Nat), .int .u64 (y : Nat)] w fun e w' => e = .returned (.tuple #[.int .u64 0, .int .i64 1]) ∧ Below w.heap.size w w' := by
  obtain ⟨W0, hW0⟩ : ∃ W, W = w.alloc (Obj.cells #[.int .u64 (x : Nat), .int .u64 (y : Nat)] 32) := ⟨_, rfl⟩
  have hX0 : Box W0 w.heap.size 32 [.int .u64 (x : Nat), .int .u64 (y : Nat)] := by rw [hW0]; exact Box.new w 32 [.int .u64 (x : Nat), .int .u64 (y : Nat)]
  have hb0 : Below w.heap.size w W0 := by rw [hW0]; exact (Below.refl _ w).alloc (Nat.le_refl _) _
  have hAsk := Lib.hid (paAsk_nil k ⟨#[]⟩ (some ⟨w.heap.size, 0, none⟩) 2 2 W0)
  have hb0H := Lib.hid hb0
  have hW0H := Lib.hid hW0
  clear hX0 hb0 hW0
  unfold cut0 at hAsk
  go_enter Tryz.func39, Tryz.ntmps39
  go_wp2_with fail
  rw [← hW0H.out]
  refine hAsk.out.mono ?_
  rintro e W1 ⟨rfl, hb⟩
  have hB1H := Lib.hid (hb0H.out.trans (hb.mono hb0H.out.size))
  have hz1 := hB1H.out.size
  clear hb hAsk
  go_wp2
  go_ret2
  exact ⟨rfl, hB1H.out.alloc hz1 _⟩
set_option maxHeartbeats 2000000 in
set_option maxRecDepth 100000 in
theorem paInsert_nil {w : World} (k : Int) (x y : Nat) : Calls Tryz.prog 34 #[.pointer none, .int .i64 k, .int .u64 (x : Nat), .int .u64 (y : Nat)] w fun e w' => e = .returned (.tuple #[.int .u64 0, .int .u64 0, .int .i64 1]) ∧ Below w.heap.size w w' := by
  obtain ⟨W0, hW0⟩ : ∃ W, W = w.alloc (Obj.cells #[.int .u64 (x : Nat), .int .u64 (y : Nat)] 32) := ⟨_, rfl⟩
  have hX0 : Box W0 w.heap.size 32 [.int .u64 (x : Nat), .int .u64 (y : Nat)] := by rw [hW0]; exact Box.new w 32 [.int .u64 (x : Nat), .int .u64 (y : Nat)]
  have hb0 : Below w.heap.size w W0 := by rw [hW0]; exact (Below.refl _ w).alloc (Nat.le_refl _) _
  have hAsk := Lib.hid (paAsk_nil k ⟨#[]⟩ (some ⟨w.heap.size, 0, none⟩) 2 2 W0)
  have hb0H := Lib.hid hb0
  have hW0H := Lib.hid hW0
  clear hX0 hb0 hW0
  unfold cut0 at hAsk
  go_enter Tryz.func34, Tryz.ntmps34
  go_wp2_with fail
  rw [← hW0H.out]
  refine hAsk.out.mono ?_
  rintro e W1 ⟨rfl, hb⟩
  have hB1H := Lib.hid (hb0H.out.trans (hb.mono hb0H.out.size))
  have hz1 := hB1H.out.size
  clear hb hAsk
  go_wp2
  refine bodyPost_ret (v := .tuple #[.int .u64 0, .int .u64 0, .int .i64 1]) (by simp [results, Tryz.f34, go_sem]) rfl ⟨rfl, hB1H.out.alloc hz1 _⟩
set_option maxHeartbeats 2000000 in
set_option maxRecDepth 100000 in
theorem paDelete_nil {w : World} (k : Int) (x : Nat) (key : ByteArray) : Calls Tryz.prog 40 #[.pointer none, .int .i64 k, .int .u64 (x : Nat), .string key] w fun e w' => e = .returned (.tuple #[.int .u64 0, .int .u64 0, .int .i64 1]) ∧ Below w.heap.size w w' := by
  obtain ⟨W0, hW0⟩ : ∃ W, W = w.alloc (Obj.cells #[.int .u64 (x : Nat)] 32) := ⟨_, rfl⟩
  have hX0 : Box W0 w.heap.size 32 [.int .u64 (x : Nat)] := by rw [hW0]; exact Box.new w 32 [.int .u64 (x : Nat)]
  have hb0 : Below w.heap.size w W0 := by rw [hW0]; exact (Below.refl _ w).alloc (Nat.le_refl _) _
  have hAsk := Lib.hid (paAsk_nil k key (some ⟨w.heap.size, 0, none⟩) 1 1 W0)
  have hb0H := Lib.hid hb0
  have hW0H := Lib.hid hW0
  clear hX0 hb0 hW0
  unfold cut0 at hAsk
  go_enter Tryz.func40, Tryz.ntmps40
  go_wp2_with fail
  rw [← hW0H.out]
  refine hAsk.out.mono ?_
  rintro e W1 ⟨rfl, hb⟩
  have hB1H := Lib.hid (hb0H.out.trans (hb.mono hb0H.out.size))
  have hz1 := hB1H.out.size
  clear hb hAsk
  go_wp2
  refine bodyPost_ret (v := .tuple #[.int .u64 0, .int .u64 0, .int .i64 1]) (by simp [results, Tryz.f40, go_sem]) rfl ⟨rfl, hB1H.out.alloc hz1 _⟩
set_option maxHeartbeats 2000000 in
set_option maxRecDepth 100000 in
theorem paCheck_nil {w : World} (k : Int) (x : Nat) : Calls Tryz.prog 41 #[.pointer none, .int .i64 k, .int .u64 (x : Nat)] w fun e w' => e = .returned (.int .i64 1) ∧ Below w.heap.size w w' := by
  have hAsk := Lib.hid (paAsk_nil k ⟨#[]⟩ none 0 0 w)
  unfold cut0 at hAsk
  go_enter Tryz.func41, Tryz.ntmps41
  go_wp2_with fail
  refine hAsk.out.mono ?_
  rintro e W1 ⟨rfl, hb⟩
  have hB1H := Lib.hid (hb)
  have hz1 := hB1H.out.size
  clear hb hAsk
  go_wp2
  go_ret
  exact ⟨rfl, hB1H.out.alloc hz1 _⟩
set_option maxHeartbeats 2000000 in
set_option maxRecDepth 100000 in
theorem paDelete_kind {w : World} {s N n : Nat} {R : Nat → Option (List Nat)} (h : Rd N w s R n) (k : Int) (hk : k ≠ 1 ∧ k ≠ 2) (x : Nat) (key : ByteArray) : Calls Tryz.prog 40 #[.pointer (some ⟨s, 0, none⟩), .int .i64 k, .int .u64 (x : Nat), .string key] w fun e w' => e = .returned (.tuple #[.int .u64 0, .int .u64 0, .int .i64 2]) ∧ Below w.heap.size w w' := by
  obtain ⟨W0, hW0⟩ : ∃ W, W = w.alloc (Obj.cells #[.int .u64 (x : Nat)] 32) := ⟨_, rfl⟩
  have hX0 : Box W0 w.heap.size 32 [.int .u64 (x : Nat)] := by rw [hW0]; exact Box.new w 32 [.int .u64 (x : Nat)]
  have hb0 : Below w.heap.size w W0 := by rw [hW0]; exact (Below.refl _ w).alloc (Nat.le_refl _) _
  have hAsk := Lib.hid (paAsk_kind (h.below hb0) k hk key (some ⟨w.heap.size, 0, none⟩) 1 1)
  have hb0H := Lib.hid hb0
  have hW0H := Lib.hid hW0
  clear hX0 hb0 hW0
  unfold cut0 at hAsk
  go_enter Tryz.func40, Tryz.ntmps40
  go_wp2_with fail
  rw [← hW0H.out]
  refine hAsk.out.mono ?_
  rintro e W1 ⟨rfl, hb⟩
  have hB1H := Lib.hid (hb0H.out.trans (hb.mono hb0H.out.size))
  have hz1 := hB1H.out.size
  clear hb hAsk
  go_wp2
  refine bodyPost_ret (v := .tuple #[.int .u64 0, .int .u64 0, .int .i64 2]) (by simp [results, Tryz.f40, go_sem]) rfl ⟨rfl, hB1H.out.alloc hz1 _⟩
set_option maxHeartbeats 2000000 in
set_option maxRecDepth 100000 in
theorem paCheck_kind {w : World} {s N n : Nat} {R : Nat → Option (List Nat)} (h : Rd N w s R n) (k : Int) (hk : k ≠ 1 ∧ k ≠ 2) (x : Nat) : Calls Tryz.prog 41 #[.pointer (some ⟨s, 0, none⟩), .int .i64 k, .int .u64 (x : Nat)] w fun e w' => e = .returned (.int .i64 2) ∧ Below w.heap.size w w' := by
  have hAsk := Lib.hid (paAsk_kind h k hk ⟨#[]⟩ none 0 0)
  unfold cut0 at hAsk
  go_enter Tryz.func41, Tryz.ntmps41
  go_wp2_with fail
  refine hAsk.out.mono ?_
  rintro e W1 ⟨rfl, hb⟩
  have hB1H := Lib.hid (hb)
  have hz1 := hB1H.out.size
  clear hb hAsk
  go_wp2
  go_ret
  exact ⟨rfl, hB1H.out.alloc hz1 _⟩
set_option maxHeartbeats 2000000 in
set_option maxRecDepth 100000 in
theorem paSplit_long {w : World} {s N n : Nat} {R : Nat → Option (List Nat)} (h : Rd N w s R n) (rd : Bool) (x : Nat) (key : ByteArray) (hk : 1000 < key.size) (hk2 : key.size ≤ 9223372036854775807) : Calls Tryz.prog 37 #[.pointer (some ⟨s, 0, none⟩), .int .i64 (kindZ rd), .int .u64 (x : Nat), .string key] w fun e w' => e = .returned (.tuple #[.int .u64 0, .int .u64 0, .int .u64 0, .int .i64 4]) ∧ Below w.heap.size w w' := by
  obtain ⟨W0, hW0⟩ : ∃ W, W = w.alloc (Obj.cells #[.int .u64 (x : Nat)] 32) := ⟨_, rfl⟩
  have hX0 : Box W0 w.heap.size 32 [.int .u64 (x : Nat)] := by rw [hW0]; exact Box.new w 32 [.int .u64 (x : Nat)]
  have hb0 : Below w.heap.size w W0 := by rw [hW0]; exact (Below.refl _ w).alloc (Nat.le_refl _) _
  have hAsk := Lib.hid (paAsk_long (h.below hb0) rd key hk hk2 (some ⟨w.heap.size, 0, none⟩) 1 1)
  have hb0H := Lib.hid hb0
  have hW0H := Lib.hid hW0
  clear hX0 hb0 hW0
  unfold cut0 at hAsk
  go_enter Tryz.func37, Tryz.ntmps37
  go_wp2_with fail
  rw [← hW0H.out]
  refine hAsk.out.mono ?_
  rintro e W1 ⟨rfl, hb⟩
  have hB1H := Lib.hid (hb0H.out.trans (hb.mono hb0H.out.size))
  have hz1 := hB1H.out.size
  clear hb hAsk
  go_wp2
  refine bodyPost_ret (v := .tuple #[.int .u64 0, .int .u64 0, .int .u64 0, .int .i64 4]) (by simp [results, Tryz.f37, go_sem]) rfl ⟨rfl, hB1H.out.alloc hz1 _⟩
set_option maxHeartbeats 2000000 in
set_option maxRecDepth 100000 in
theorem paConcat_form {w : World} {s N n : Nat} {R : Nat → Option (List Nat)} (h : Rd N w s R n) (rd : Bool) (x y : Nat) (hx : x < 18446744073709551616) (hy : y < 18446744073709551616) (hno : ∃ z ∈ [x, y], isR R z = false) : Calls Tryz.prog 39 #[.pointer (some ⟨s, 0, none⟩), .int .i64 (kindZ rd), .int .u64 (x : Nat), .int .u64 (y : Nat)] w fun e w' => e = .returned (.tuple #[.int .u64 0, .int .i64 8]) ∧ Below w.heap.size w w' := by
  obtain ⟨W0, hW0⟩ : ∃ W, W = w.alloc (Obj.cells #[.int .u64 (x : Nat), .int .u64 (y : Nat)] 32) := ⟨_, rfl⟩
  have hX0 : Box W0 w.heap.size 32 [.int .u64 (x : Nat), .int .u64 (y : Nat)] := by rw [hW0]; exact Box.new w 32 [.int .u64 (x : Nat), .int .u64 (y : Nat)]
  have hb0 : Below w.heap.size w W0 := by rw [hW0]; exact (Below.refl _ w).alloc (Nat.le_refl _) _
  have hAt : HsAt W0 (some ⟨w.heap.size, 0, none⟩) [x, y] := fun i hi => ⟨w.heap.size, rfl, by
    have := hX0.at' (i := i) (v := .int .u64 (([x, y] : List Nat)[i] : Nat)) (by
      have hc : i = 0 ∨ i = 1 := by simp at hi; omega
      rcases hc with rfl | rfl <;> rfl)
    exact this⟩
  have hAsk := Lib.hid (paAsk_form (h.below hb0) rd ⟨#[]⟩ (by decide) (some ⟨w.heap.size, 0, none⟩) 2 [x, y] (by simp) hAt (by simp; omega) hno)
  have hb0H := Lib.hid hb0
  have hW0H := Lib.hid hW0
  clear hX0 hb0 hW0 hAt
  unfold cut0 at hAsk
  go_enter Tryz.func39, Tryz.ntmps39
  go_wp2_with fail
  rw [← hW0H.out]
  refine hAsk.out.mono ?_
  rintro e W1 ⟨rfl, hb⟩
  have hB1H := Lib.hid (hb0H.out.trans (hb.mono hb0H.out.size))
  have hz1 := hB1H.out.size
  clear hb hAsk
  go_wp2
  go_ret2
  exact ⟨rfl, hB1H.out.alloc hz1 _⟩
set_option maxHeartbeats 4000000 in
set_option maxRecDepth 100000 in
theorem paInsert_zero {w : World} {s N n : Nat} {R : Nat → Option (List Nat)} (h : Rd N w s R n) (h0 : R 0 = none) (hsh : Short R) (rd : Bool) : Calls Tryz.prog 34 #[.pointer (some ⟨s, 0, none⟩), .int .i64 (kindZ rd), .int .u64 0, .int .u64 0] w fun e w' => e = .returned (.tuple #[.int .u64 0, .int .u64 0, .int .i64 8]) ∧ Below w.heap.size w w' := by
  obtain ⟨W0, hW0⟩ : ∃ W, W = w.alloc (Obj.cells #[.int .u64 0, .int .u64 0] 32) := ⟨_, rfl⟩
  have hX0 : Box W0 w.heap.size 32 [.int .u64 0, .int .u64 0] := by rw [hW0]; exact Box.new w 32 [.int .u64 0, .int .u64 0]
  have hb0 : Below w.heap.size w W0 := by rw [hW0]; exact (Below.refl _ w).alloc (Nat.le_refl _) _
  have hAt : HsAt W0 (some ⟨w.heap.size, 0, none⟩) [0, 0] := fun i hi => ⟨w.heap.size, rfl, by
    have := hX0.at' (i := i) (v := .int .u64 (([0, 0] : List Nat)[i] : Nat)) (by
      have hc : i = 0 ∨ i = 1 := by simp at hi; omega
      rcases hc with rfl | rfl <;> rfl)
    exact this⟩
  have hAsk : Calls Tryz.prog 70 #[.pointer (some ⟨s, 0, none⟩), .int .i64 (kindZ rd), .string ⟨#[]⟩, .slice (some ⟨w.heap.size, 0, none⟩) 2 2] W0 _ := paAsk_ok (h.below hb0) rd ⟨#[]⟩ (by decide) (some ⟨w.heap.size, 0, none⟩) 2 [0, 0] (by simp) hAt (by simp) (by simp [isR])
  have hGt := Lib.hid (fun W (hb : Below w.heap.size w W) => nget_lit (h.below hb) 0 (by omega) Nd.zero (BT.nodeG_zero h0) 7 (by unfold nodeE; rw [h0]))
  have hBg := Lib.hid (fun W (hb : Below w.heap.size w W) => by have := bget_at (h.below hb) hsh 0 (by omega); rw [blobV_none h0] at this; exact this)
  unfold cutV at hAsk
  have hAskH := Lib.hid hAsk
  have hb0H := Lib.hid hb0
  have hW0H := Lib.hid hW0
  clear hX0 hb0 hW0 hAt hAsk h h0 hsh
  go_enter Tryz.func34, Tryz.ntmps34
  go_wp2_with fail
  rw [← hW0H.out]
  refine hAskH.out.mono ?_
  rintro e W1 ⟨rfl, hb⟩
  have hB1H := Lib.hid (hb0H.out.trans (hb.mono hb0H.out.size))
  have hz1 := hB1H.out.size
  clear hb hAskH hW0H hb0H
  have hB2 := hB1H.out.alloc hz1 (Obj.cells #[.pointer (some ⟨s, 0, none⟩), .func (.func (jnF rd)) #[] #[], .func (.func (ckF rd)) #[] #[]] 124)
  have hB2H := Lib.hid hB2
  clear hB2
  go_wp2_with fail
  refine (hGt.out _ hB2H.out).mono ?_
  unfold Nd.zero
  rintro e W3 ⟨rfl, hb⟩
  have hB3H := Lib.hid (hB2H.out.trans (hb.mono hB2H.out.size))
  have hz3 := hB3H.out.size
  clear hb hGt hB2H
  have hB4 := hB3H.out.alloc hz3 (Obj.cells #[.int .u64 0, .int .u64 0, .int .u64 0, .int .u64 0, .int .u64 0, .int .u64 0] 53)
  have hB4H := Lib.hid hB4
  clear hB4
  go_wp2_with fail
  refine (hBg.out _ hB4H.out).mono ?_
  rintro e W5 ⟨rfl, hb⟩
  have hB5H := Lib.hid (hB4H.out.trans (hb.mono hB4H.out.size))
  clear hb hBg hB4H
  go_wp2
  refine bodyPost_ret (v := .tuple #[.int .u64 0, .int .u64 0, .int .i64 8]) (by simp [results, Tryz.f34, go_sem]) rfl ⟨rfl, hB5H.out⟩
end Go.Proofs.YtjpmlneihbckpaaGreatDoor
/- loftlaw14.PartsNone: the walk. -/
set_option linter.unusedVariables false
set_option linter.unusedSimpArgs false
namespace Go.Proofs.YtjpmlneihbckpaaGreatDoor
open Go.RowKit Go.Shelf
theorem info_u8 : (Tryz.prog.info? 5).map (fun i => (i.zero, i.size, i.bytes)) = some (some (.int .u8 0), 1, 1) := by kernel_rfl
set_option maxRecDepth 100000 in
/-- 'string(make([]byte, 1001))' -/
theorem long_run (W : World) : ∃ (W' : World) (lg : ByteArray), lg.size = 1001 ∧ Below W.heap.size W W' ∧ (Instr.makeSlice 70 (.int .i64 1001) (.int .i64 1001)).run Tryz.prog W = .ok (.slice (some ⟨W.heap.size, 0, none⟩) 1001 1001) W' ∧
    (convert 70 9 (.slice (some ⟨W.heap.size, 0, none⟩) 1001 1001)).run Tryz.prog W' = .ok (.string lg) W' := by
  obtain ⟨i0, hi, hz0, hz1, hz2⟩ := info_parts info_u8
  have hm := run_makeSlice (P := Tryz.prog) W 70 5 i0 (.int .u8 0) (by kernel_rfl) hi hz0 .i64 .i64 1001 1001 (by omega) (by omega) (by rw [hz1]; decide) (by rw [hz2]; decide) (by omega)
  obtain ⟨n, hn⟩ : ∃ n, n = 1001 := ⟨_, rfl⟩
  have hr := World.rowIs_made W (.int .u8 0) n 5
  have e : madeCells (Value.cells (.int .u8 0)) ((1001 : Int).toNat * i0.size) = madeCells #[.int .u8 0] n := by rw [hz1, hn]; rfl
  rw [e] at hm
  obtain ⟨W', hW'⟩ : ∃ W', W' = W.alloc (.cells (madeCells #[.int .u8 0] n) 5) := ⟨_, rfl⟩
  rw [← hW'] at hm hr
  refine ⟨W', strOfNums (List.replicate n 0), by rw [strOfNums_size, List.length_replicate, hn], by rw [hW']; exact (Below.refl _ _).alloc (Nat.le_refl _) _, hm, ?_⟩
  have hc := run_convert_bytes_arg (P := Tryz.prog) W' 70 5 (by kernel_rfl) (by kernel_rfl) W.heap.size 0 n n (List.replicate n 0) List.length_replicate (fun i hi => by
    rw [Nat.zero_add, hr.cell hi, List.getD_eq_getElem?_getD, List.getElem?_replicate, if_pos hi]
    rfl) 9 (by kernel_rfl)
  rw [hn] at hc ⊢
  exact hc
set_option maxHeartbeats 8000000 in
set_option maxRecDepth 100000 in
theorem none14_main {w : World} (hT : Tab w) (k : Int) (hd : Nat) (hk : -9223372036854775808 ≤ k ∧ k ≤ 9223372036854775807) (hh : hd < 18446744073709551616) :
    Calls Tryz.prog 11 #[.int .i64 k, .int .u64 (hd : Nat)] w (TrueB w) := by
  have hN := Lib.hid (snew_at hT 640 9 9 (by omega) (by omega) (by omega) (by omega) (by omega))
  have hTH := Lib.hid hT
  clear hT
  unfold TrueB
  by_cases hkk : k ≠ 1 ∧ k ≠ 2
  · have e1 : (k != 1) = true := by simp; omega
    have e2 : (k != 2) = true := by simp; omega
    have hkkH := Lib.hid hkk
    clear hkk
    go_enter Tryz.func11, Tryz.ntmps11
    go_wp2_with fail
    refine hN.out.mono ?_
    rintro e w1 ⟨s, F, rfl, hS, hs1, hF1, hb1⟩
    obtain ⟨w2, lg, hlg, hb2, hmk, hcv⟩ := long_run w1
    have hlg1 : 1000 < lg.size := by omega
    have hlg2 : lg.size ≤ 9223372036854775807 := by omega
    have hS2H := Lib.hid (hS.below hb2)
    have hF1H := Lib.hid hF1
    have hb2H := Lib.hid (hb1.trans (hb2.mono hb1.size))
    clear hS hF1 hb1 hb2 hN hlg
    have hq := Lib.hid (paSplit_nil (w := w2) k hd ⟨#[]⟩)
    go_wp2_with fail
    refine hq.out.mono ?_
    rintro e w3 ⟨rfl, hb⟩
    have hb3H := Lib.hid (hb2H.out.trans (hb.mono hb2H.out.size))
    have hS3H := Lib.hid (hS2H.out.below hb)
    clear hb hq hb2H hS2H
    clear hmk hcv
    have hq := Lib.hid (paConcat_nil (w := w3) k hd hd)
    go_wp2_with fail
    refine hq.out.mono ?_
    rintro e w4 ⟨rfl, hb⟩
    have hb4H := Lib.hid (hb3H.out.trans (hb.mono hb3H.out.size))
    have hS4H := Lib.hid (hS3H.out.below hb)
    clear hb hq hb3H hS3H
    have hq := Lib.hid (paInsert_nil (w := w4) k hd hd)
    go_wp2_with fail
    refine hq.out.mono ?_
    rintro e w5 ⟨rfl, hb⟩
    have hb5H := Lib.hid (hb4H.out.trans (hb.mono hb4H.out.size))
    have hS5H := Lib.hid (hS4H.out.below hb)
    clear hb hq hb4H hS4H
    have hq := Lib.hid (paDelete_nil (w := w5) k hd ⟨#[]⟩)
    go_wp2_with fail
    refine hq.out.mono ?_
    rintro e w6 ⟨rfl, hb⟩
    have hb6H := Lib.hid (hb5H.out.trans (hb.mono hb5H.out.size))
    have hS6H := Lib.hid (hS5H.out.below hb)
    clear hb hq hb5H hS5H
    have hq := Lib.hid (paCheck_nil (w := w6) k hd)
    go_wp2_with fail
    refine hq.out.mono ?_
    rintro e w7 ⟨rfl, hb⟩
    have hb7H := Lib.hid (hb6H.out.trans (hb.mono hb6H.out.size))
    have hS7H := Lib.hid (hS6H.out.below hb)
    clear hb hq hb6H hS6H
    obtain ⟨n7, hr7, _⟩ := hS7H.out.rd
    have hr7H := Lib.hid hr7
    clear hr7
    have hq := Lib.hid (paDelete_kind hr7H.out k hkkH.out hd lg)
    go_wp2_with fail
    refine hq.out.mono ?_
    rintro e w8 ⟨rfl, hb⟩
    have hb8H := Lib.hid (hb7H.out.trans (hb.mono hb7H.out.size))
    have hS8H := Lib.hid (hS7H.out.below hb)
    clear hb hq hb7H hS7H
    obtain ⟨n8, hr8, _⟩ := hS8H.out.rd
    have hr8H := Lib.hid hr8
    clear hr8
    have hq := Lib.hid (by have := paCheck_kind hr8H.out k hkkH.out 0; exact this)
    go_wp2_with fail
    refine hq.out.mono ?_
    rintro e w9 ⟨rfl, hb⟩
    have hb9H := Lib.hid (hb8H.out.trans (hb.mono hb8H.out.size))
    have hS9H := Lib.hid (hS8H.out.below hb)
    clear hb hq hb8H hS8H
    have hAw := Lib.hid (awake14_at (hTH.out.below hb9H.out (tab_lt hTH.out)))
    go_wp2_with fail
    refine hAw.out.mono ?_
    rintro e w19 ⟨rfl, hb9⟩
    have hb9H := Lib.hid (hb9H.out.trans (hb9.mono hb9H.out.size))
    clear hb9 hAw
    go_wp2
    go_ret
    exact ⟨rfl, hb9H.out⟩
  · obtain ⟨rd, rfl⟩ := kind_of (k := k) (by omega) (by omega)
    clear hkk hk
    cases rd with
    | false =>
      have e1 : (kindZ false != 1) = false := rfl
      have e2 : (kindZ false != 2) = true := rfl
      go_enter Tryz.func11, Tryz.ntmps11
      go_wp2_with fail
      refine hN.out.mono ?_
      rintro e w1 ⟨s, F, rfl, hS, hs1, hF1, hb1⟩
      obtain ⟨w2, lg, hlg, hb2, hmk, hcv⟩ := long_run w1
      have hlg1 : 1000 < lg.size := by omega
      have hlg2 : lg.size ≤ 9223372036854775807 := by omega
      have hS2H := Lib.hid (hS.below hb2)
      have hF1H := Lib.hid hF1
      have hb2H := Lib.hid (hb1.trans (hb2.mono hb1.size))
      clear hS hF1 hb1 hb2 hN hlg
      have hq := Lib.hid (paSplit_nil (w := w2) (kindZ false) hd ⟨#[]⟩)
      go_wp2_with fail
      refine hq.out.mono ?_
      rintro e w3 ⟨rfl, hb⟩
      have hb3H := Lib.hid (hb2H.out.trans (hb.mono hb2H.out.size))
      have hS3H := Lib.hid (hS2H.out.below hb)
      clear hb hq hb2H hS2H
      clear hmk hcv
      have hq := Lib.hid (paConcat_nil (w := w3) (kindZ false) hd hd)
      go_wp2_with fail
      refine hq.out.mono ?_
      rintro e w4 ⟨rfl, hb⟩
      have hb4H := Lib.hid (hb3H.out.trans (hb.mono hb3H.out.size))
      have hS4H := Lib.hid (hS3H.out.below hb)
      clear hb hq hb3H hS3H
      have hq := Lib.hid (paInsert_nil (w := w4) (kindZ false) hd hd)
      go_wp2_with fail
      refine hq.out.mono ?_
      rintro e w5 ⟨rfl, hb⟩
      have hb5H := Lib.hid (hb4H.out.trans (hb.mono hb4H.out.size))
      have hS5H := Lib.hid (hS4H.out.below hb)
      clear hb hq hb4H hS4H
      have hq := Lib.hid (paDelete_nil (w := w5) (kindZ false) hd ⟨#[]⟩)
      go_wp2_with fail
      refine hq.out.mono ?_
      rintro e w6 ⟨rfl, hb⟩
      have hb6H := Lib.hid (hb5H.out.trans (hb.mono hb5H.out.size))
      have hS6H := Lib.hid (hS5H.out.below hb)
      clear hb hq hb5H hS5H
      have hq := Lib.hid (paCheck_nil (w := w6) (kindZ false) hd)
      go_wp2_with fail
      refine hq.out.mono ?_
      rintro e w7 ⟨rfl, hb⟩
      have hb7H := Lib.hid (hb6H.out.trans (hb.mono hb6H.out.size))
      have hS7H := Lib.hid (hS6H.out.below hb)
      clear hb hq hb6H hS6H
      obtain ⟨n7, hr7, _⟩ := hS7H.out.rd
      have hr7H := Lib.hid hr7
      clear hr7
      have hq := Lib.hid (paSplit_long hr7H.out false hd lg hlg1 hlg2)
      go_wp2_with fail
      refine hq.out.mono ?_
      rintro e w8 ⟨rfl, hb⟩
      have hb8H := Lib.hid (hb7H.out.trans (hb.mono hb7H.out.size))
      have hS8H := Lib.hid (hS7H.out.below hb)
      clear hb hq hb7H hS7H
      obtain ⟨n8, hr8, _⟩ := hS8H.out.rd
      have hr8H := Lib.hid hr8
      clear hr8
      have hq := Lib.hid (paInsert_zero hr8H.out rfl (fun x ws e => by cases e) false)
      go_wp2_with fail
      refine hq.out.mono ?_
      rintro e w9 ⟨rfl, hb⟩
      have hb9H := Lib.hid (hb8H.out.trans (hb.mono hb8H.out.size))
      have hS9H := Lib.hid (hS8H.out.below hb)
      clear hb hq hb8H hS8H
      obtain ⟨n9, hr9, _⟩ := hS9H.out.rd
      have hr9H := Lib.hid hr9
      clear hr9
      have hq := Lib.hid (paConcat_form hr9H.out false 0 1 (by omega) (by omega) ⟨1, by simp, rfl⟩)
      go_wp2_with fail
      refine hq.out.mono ?_
      rintro e w10 ⟨rfl, hb⟩
      have hb10H := Lib.hid (hb9H.out.trans (hb.mono hb9H.out.size))
      have hS10H := Lib.hid (hS9H.out.below hb)
      clear hb hq hb9H hS9H
      have hD := paDelT_at (t := .nil) hS10H.out false rfl (fun x ws e => by cases e) trivial (BT.Kd.nil _) List.nodup_nil (by decide) List.Pairwise.nil ⟨#[97]⟩ (by decide)
      rw [show ((BT.root .nil : Nat) : Int) = 0 from rfl] at hD
      have hDH := Lib.hid hD
      clear hD
      go_wp2_with fail
      refine hDH.out.mono ?_
      rintro e w11 ⟨t', old, R', rfl, o, ho, hkp, hS, hT⟩
      have ht : t' = .nil := BT.nil_of (by rw [o.prs]; rfl)
      have h0 : old.root = 0 := by
        by_cases h : old.root = 0
        · exact h
        · exact absurd (ho.1 h) (by decide)
      subst ht
      rw [h0, show ((BT.root .nil : Nat)) = 0 from rfl]
      have hb11H := Lib.hid (hb10H.out.trans (hT.to_below hb10H.out.size hF1H.out))
      clear o ho hkp hS hT hDH h0 hb10H hS10H
      have hAw := Lib.hid (awake14_at (hTH.out.below hb11H.out (tab_lt hTH.out)))
      go_wp2_with fail
      refine hAw.out.mono ?_
      rintro e w19 ⟨rfl, hb9⟩
      have hb9H := Lib.hid (hb11H.out.trans (hb9.mono hb11H.out.size))
      clear hb9 hAw
      go_wp2
      go_ret
      exact ⟨rfl, hb9H.out⟩
    | true =>
      have e1 : (kindZ true != 1) = true := rfl
      have e2 : (kindZ true != 2) = false := rfl
      go_enter Tryz.func11, Tryz.ntmps11
      go_wp2_with fail
      refine hN.out.mono ?_
      rintro e w1 ⟨s, F, rfl, hS, hs1, hF1, hb1⟩
      obtain ⟨w2, lg, hlg, hb2, hmk, hcv⟩ := long_run w1
      have hlg1 : 1000 < lg.size := by omega
      have hlg2 : lg.size ≤ 9223372036854775807 := by omega
      have hS2H := Lib.hid (hS.below hb2)
      have hF1H := Lib.hid hF1
      have hb2H := Lib.hid (hb1.trans (hb2.mono hb1.size))
      clear hS hF1 hb1 hb2 hN hlg
      have hq := Lib.hid (paSplit_nil (w := w2) (kindZ true) hd ⟨#[]⟩)
      go_wp2_with fail
      refine hq.out.mono ?_
      rintro e w3 ⟨rfl, hb⟩
      have hb3H := Lib.hid (hb2H.out.trans (hb.mono hb2H.out.size))
      have hS3H := Lib.hid (hS2H.out.below hb)
      clear hb hq hb2H hS2H
      clear hmk hcv
      have hq := Lib.hid (paConcat_nil (w := w3) (kindZ true) hd hd)
      go_wp2_with fail
      refine hq.out.mono ?_
      rintro e w4 ⟨rfl, hb⟩
      have hb4H := Lib.hid (hb3H.out.trans (hb.mono hb3H.out.size))
      have hS4H := Lib.hid (hS3H.out.below hb)
      clear hb hq hb3H hS3H
      have hq := Lib.hid (paInsert_nil (w := w4) (kindZ true) hd hd)
      go_wp2_with fail
      refine hq.out.mono ?_
      rintro e w5 ⟨rfl, hb⟩
      have hb5H := Lib.hid (hb4H.out.trans (hb.mono hb4H.out.size))
      have hS5H := Lib.hid (hS4H.out.below hb)
      clear hb hq hb4H hS4H
      have hq := Lib.hid (paDelete_nil (w := w5) (kindZ true) hd ⟨#[]⟩)
      go_wp2_with fail
      refine hq.out.mono ?_
      rintro e w6 ⟨rfl, hb⟩
      have hb6H := Lib.hid (hb5H.out.trans (hb.mono hb5H.out.size))
      have hS6H := Lib.hid (hS5H.out.below hb)
      clear hb hq hb5H hS5H
      have hq := Lib.hid (paCheck_nil (w := w6) (kindZ true) hd)
      go_wp2_with fail
      refine hq.out.mono ?_
      rintro e w7 ⟨rfl, hb⟩
      have hb7H := Lib.hid (hb6H.out.trans (hb.mono hb6H.out.size))
      have hS7H := Lib.hid (hS6H.out.below hb)
      clear hb hq hb6H hS6H
      obtain ⟨n7, hr7, _⟩ := hS7H.out.rd
      have hr7H := Lib.hid hr7
      clear hr7
      have hq := Lib.hid (paSplit_long hr7H.out true hd lg hlg1 hlg2)
      go_wp2_with fail
      refine hq.out.mono ?_
      rintro e w8 ⟨rfl, hb⟩
      have hb8H := Lib.hid (hb7H.out.trans (hb.mono hb7H.out.size))
      have hS8H := Lib.hid (hS7H.out.below hb)
      clear hb hq hb7H hS7H
      obtain ⟨n8, hr8, _⟩ := hS8H.out.rd
      have hr8H := Lib.hid hr8
      clear hr8
      have hq := Lib.hid (paInsert_zero hr8H.out rfl (fun x ws e => by cases e) true)
      go_wp2_with fail
      refine hq.out.mono ?_
      rintro e w9 ⟨rfl, hb⟩
      have hb9H := Lib.hid (hb8H.out.trans (hb.mono hb8H.out.size))
      have hS9H := Lib.hid (hS8H.out.below hb)
      clear hb hq hb8H hS8H
      obtain ⟨n9, hr9, _⟩ := hS9H.out.rd
      have hr9H := Lib.hid hr9
      clear hr9
      have hq := Lib.hid (paConcat_form hr9H.out true 0 1 (by omega) (by omega) ⟨1, by simp, rfl⟩)
      go_wp2_with fail
      refine hq.out.mono ?_
      rintro e w10 ⟨rfl, hb⟩
      have hb10H := Lib.hid (hb9H.out.trans (hb.mono hb9H.out.size))
      have hS10H := Lib.hid (hS9H.out.below hb)
      clear hb hq hb9H hS9H
      have hD := paDelT_at (t := .nil) hS10H.out true rfl (fun x ws e => by cases e) trivial (BT.Kd.nil _) List.nodup_nil (by decide) List.Pairwise.nil ⟨#[97]⟩ (by decide)
      rw [show ((BT.root .nil : Nat) : Int) = 0 from rfl] at hD
      have hDH := Lib.hid hD
      clear hD
      go_wp2_with fail
      refine hDH.out.mono ?_
      rintro e w11 ⟨t', old, R', rfl, o, ho, hkp, hS, hT⟩
      have ht : t' = .nil := BT.nil_of (by rw [o.prs]; rfl)
      have h0 : old.root = 0 := by
        by_cases h : old.root = 0
        · exact h
        · exact absurd (ho.1 h) (by decide)
      subst ht
      rw [h0, show ((BT.root .nil : Nat)) = 0 from rfl]
      have hb11H := Lib.hid (hb10H.out.trans (hT.to_below hb10H.out.size hF1H.out))
      clear o ho hkp hS hT hDH h0 hb10H hS10H
      have hAw := Lib.hid (awake14_at (hTH.out.below hb11H.out (tab_lt hTH.out)))
      go_wp2_with fail
      refine hAw.out.mono ?_
      rintro e w19 ⟨rfl, hb9⟩
      have hb9H := Lib.hid (hb11H.out.trans (hb9.mono hb11H.out.size))
      clear hb9 hAw
      go_wp2
      go_ret
      exact ⟨rfl, hb9H.out⟩
end Go.Proofs.YtjpmlneihbckpaaGreatDoor

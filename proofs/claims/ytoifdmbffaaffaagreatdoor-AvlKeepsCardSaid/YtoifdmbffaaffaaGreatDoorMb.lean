/-
  The seat's own texts, part b: Slab3, Bits, Heap, Heap2, Heads, Heap3, Spot.
-/
import Derived.Test.YtoifdmbffaaffaaGreatDoorMa
import Derived.Shelf.SlIterI.Nil
import Derived.Shelf.SortM.Plain
import Derived.Shelf.SortM.SortNone
import Derived.Ground.GgzProg
import Derived.Ground.SlgmProg
import Derived.Shelf.Spec.TrailingZeros
import Derived.Laws.Bits64b
import Derived.Ground.Names7Prog
import Derived.Shelf.Lay
import Derived.Shelf.SlGeneric
/- The walks of the package slab: New, Release, Pages. -/
set_option linter.unusedVariables false
set_option linter.unusedSimpArgs false
namespace Go.Proofs.YtoifdmbffaaffaaGreatDoor
open Go.RowKit Go.Shelf Go.Maps Go.Sort
def Tryz.keysA_ren : Go.Shelf.Ren := ⟨fun | 7 => 111 | 10 => 137 | n => n, fun | 23 => 116 | 26 => 3 | 3 => 166 | 28 => 164 | 0 => 0 | 27 => 163 | 33 => 180 | 4 => 4 | n => n, fun | n => n⟩
theorem Tryz.keysA : Go.Proofs.SlLaysZI.n7 Tryz.prog Tryz.keysA_ren := {
  mixed := by kernel_rfl
  f7 := ⟨Tryz.f111.name, by decide, Tryz.func111.trans (congrArg some (by kernel_rfl))⟩
  f10 := ⟨Tryz.f137.name, by decide, Tryz.func137.trans (congrArg some (by kernel_rfl))⟩
  t0 := Tryz.underlying0
  a0 := Tryz.isAgg0
  z0 := Tryz.sizeOf0
  v0 := Tryz.zeroValue0
  t4 := Tryz.underlying4
  a4 := Tryz.isAgg4
  z4 := Tryz.sizeOf4
  v4 := Tryz.zeroValue4
  t23 := Tryz.underlying116
  a23 := Tryz.isAgg116
  z23 := Tryz.sizeOf116
  v23 := Tryz.zeroValue116
  t26 := Tryz.underlying3
  a26 := Tryz.isAgg3
  z26 := Tryz.sizeOf3
  v26 := Tryz.zeroValue3
  t27 := Tryz.underlying163
  a27 := Tryz.isAgg163
  z27 := Tryz.sizeOf163
  v27 := Tryz.zeroValue163
  t28 := Tryz.underlying164
  a28 := Tryz.isAgg164
  z28 := Tryz.sizeOf164
  v28 := Tryz.zeroValue164
  t33 := Tryz.underlying180
  a33 := Tryz.isAgg180
  z33 := Tryz.sizeOf180
  v33 := Tryz.zeroValue180 }
def Tryz.sortedA_ren : Go.Shelf.Ren := ⟨fun | 6 => 110 | 8 => 135 | 9 => 136 | 11 => 153 | 13 => 155 | 12 => 154 | 23 => 170 | 24 => 171 | 14 => 161 | 15 => 162 | 16 => 163 | 17 => 164 | 18 => 165 | 19 => 166 | 20 => 167 | 21 => 168 | 22 => 169 | 25 => 174 | 26 => 175 | 27 => 176 | 28 => 177 | 29 => 178 | 30 => 179 | 31 => 181 | n => n, fun | 26 => 3 | 28 => 164 | 24 => 61 | 0 => 0 | 3 => 3 | 37 => 39 | 48 => 28 | 50 => 22 | 4 => 4 | 40 => 210 | 39 => 209 | 45 => 41 | 5 => 5 | 9 => 9 | 51 => 219 | 55 => 223 | 57 => 226 | 58 => 227 | 33 => 180 | n => n, fun | n => n⟩
theorem Tryz.sortedA : Go.Proofs.SlLaysZI.n6 Tryz.prog Tryz.sortedA_ren := {
  mixed := by kernel_rfl
  f6 := ⟨Tryz.f110.name, by decide, Tryz.func110.trans (congrArg some (by kernel_rfl))⟩
  f8 := ⟨Tryz.f135.name, by decide, Tryz.func135.trans (congrArg some (by kernel_rfl))⟩
  f11 := ⟨Tryz.f153.name, by decide, Tryz.func153.trans (congrArg some (by kernel_rfl))⟩
  t0 := Tryz.underlying0
  a0 := Tryz.isAgg0
  z0 := Tryz.sizeOf0
  v0 := Tryz.zeroValue0
  t24 := Tryz.underlying61
  a24 := Tryz.isAgg61
  z24 := Tryz.sizeOf61
  v24 := Tryz.zeroValue61
  t26 := Tryz.underlying3
  a26 := Tryz.isAgg3
  z26 := Tryz.sizeOf3
  v26 := Tryz.zeroValue3
  t28 := Tryz.underlying164
  a28 := Tryz.isAgg164
  z28 := Tryz.sizeOf164
  v28 := Tryz.zeroValue164
  i26 := by kernel_rfl }
def Tryz.sortA_ren : Go.Shelf.Ren := ⟨fun | 5 => 136 | 8 => 155 | 7 => 154 | 19 => 170 | 20 => 171 | 10 => 161 | 11 => 162 | 12 => 163 | 13 => 164 | 14 => 165 | 15 => 166 | 16 => 167 | 17 => 168 | 18 => 169 | 30 => 174 | 31 => 175 | 32 => 176 | 33 => 177 | 34 => 178 | 35 => 179 | 40 => 181 | n => n, fun | 23 => 61 | 25 => 3 | 3 => 3 | 32 => 39 | 22 => 61 | 0 => 0 | 44 => 28 | 46 => 22 | 4 => 4 | 36 => 210 | 35 => 209 | 41 => 41 | 5 => 5 | 9 => 9 | 53 => 219 | 57 => 223 | 63 => 226 | 64 => 227 | n => n, fun | n => n⟩
theorem Tryz.sortA : Go.Proofs.SlLaysM.n5 Tryz.prog Tryz.sortA_ren := {
  mixed := by kernel_rfl
  f5 := ⟨Tryz.f136.name, by decide, Tryz.func136.trans (congrArg some (by kernel_rfl))⟩
  f7 := ⟨Tryz.f154.name, by decide, Tryz.func154.trans (congrArg some (by kernel_rfl))⟩
  f8 := Tryz.func155.trans (congrArg some (by kernel_rfl))
  f10 := ⟨Tryz.f161.name, by decide, Tryz.func161.trans (congrArg some (by kernel_rfl))⟩
  f11 := ⟨Tryz.f162.name, by decide, Tryz.func162.trans (congrArg some (by kernel_rfl))⟩
  f12 := ⟨Tryz.f163.name, by decide, Tryz.func163.trans (congrArg some (by kernel_rfl))⟩
  f13 := ⟨Tryz.f164.name, by decide, Tryz.func164.trans (congrArg some (by kernel_rfl))⟩
  f14 := ⟨Tryz.f165.name, by decide, Tryz.func165.trans (congrArg some (by kernel_rfl))⟩
  f15 := ⟨Tryz.f166.name, by decide, Tryz.func166.trans (congrArg some (by kernel_rfl))⟩
  f16 := ⟨Tryz.f167.name, by decide, Tryz.func167.trans (congrArg some (by kernel_rfl))⟩
  f17 := ⟨Tryz.f168.name, by decide, Tryz.func168.trans (congrArg some (by kernel_rfl))⟩
  f18 := ⟨Tryz.f169.name, by decide, Tryz.func169.trans (congrArg some (by kernel_rfl))⟩
  f19 := Tryz.func170.trans (congrArg some (by kernel_rfl))
  f20 := Tryz.func171.trans (congrArg some (by kernel_rfl))
  f30 := ⟨Tryz.f174.name, by decide, Tryz.func174.trans (congrArg some (by kernel_rfl))⟩
  f31 := Tryz.func175.trans (congrArg some (by kernel_rfl))
  f32 := Tryz.func176.trans (congrArg some (by kernel_rfl))
  f33 := ⟨Tryz.f177.name, by decide, Tryz.func177.trans (congrArg some (by kernel_rfl))⟩
  f34 := ⟨Tryz.f178.name, by decide, Tryz.func178.trans (congrArg some (by kernel_rfl))⟩
  f35 := ⟨Tryz.f179.name, by decide, Tryz.func179.trans (congrArg some (by kernel_rfl))⟩
  f40 := ⟨Tryz.f181.name, by decide, Tryz.func181.trans (congrArg some (by kernel_rfl))⟩
  t0 := Tryz.underlying0
  a0 := Tryz.isAgg0
  z0 := Tryz.sizeOf0
  v0 := Tryz.zeroValue0
  t3 := Tryz.underlying3
  a3 := Tryz.isAgg3
  z3 := Tryz.sizeOf3
  v3 := Tryz.zeroValue3
  t4 := Tryz.underlying4
  a4 := Tryz.isAgg4
  z4 := Tryz.sizeOf4
  v4 := Tryz.zeroValue4
  t5 := Tryz.underlying5
  a5 := Tryz.isAgg5
  z5 := Tryz.sizeOf5
  v5 := Tryz.zeroValue5
  t9 := Tryz.underlying9
  a9 := Tryz.isAgg9
  z9 := Tryz.sizeOf9
  v9 := Tryz.zeroValue9
  t22 := Tryz.underlying61
  a22 := Tryz.isAgg61
  z22 := Tryz.sizeOf61
  v22 := Tryz.zeroValue61
  t23 := Tryz.underlying61
  a23 := Tryz.isAgg61
  z23 := Tryz.sizeOf61
  v23 := Tryz.zeroValue61
  t25 := Tryz.underlying3
  a25 := Tryz.isAgg3
  z25 := Tryz.sizeOf3
  v25 := Tryz.zeroValue3
  t32 := Tryz.underlying39
  a32 := Tryz.isAgg39
  z32 := Tryz.sizeOf39
  v32 := Tryz.zeroValue39
  t35 := Tryz.underlying209
  a35 := Tryz.isAgg209
  z35 := Tryz.sizeOf209
  v35 := Tryz.zeroValue209
  t36 := Tryz.underlying210
  a36 := Tryz.isAgg210
  z36 := Tryz.sizeOf210
  v36 := Tryz.zeroValue210
  t41 := Tryz.underlying41
  a41 := Tryz.isAgg41
  z41 := Tryz.sizeOf41
  v41 := Tryz.zeroValue41
  t44 := Tryz.underlying28
  a44 := Tryz.isAgg28
  z44 := Tryz.sizeOf28
  v44 := Tryz.zeroValue28
  t46 := Tryz.underlying22
  a46 := Tryz.isAgg22
  z46 := Tryz.sizeOf22
  v46 := Tryz.zeroValue22
  t53 := Tryz.underlying219
  a53 := Tryz.isAgg219
  z53 := Tryz.sizeOf219
  v53 := Tryz.zeroValue219
  t57 := Tryz.underlying223
  a57 := Tryz.isAgg223
  z57 := Tryz.sizeOf223
  v57 := Tryz.zeroValue223
  t63 := Tryz.underlying226
  a63 := Tryz.isAgg226
  z63 := Tryz.sizeOf226
  v63 := Tryz.zeroValue226
  t64 := Tryz.underlying227
  a64 := Tryz.isAgg227
  z64 := Tryz.sizeOf227
  v64 := Tryz.zeroValue227 }
def Tryz.tz64_ren : Go.Shelf.Ren := ⟨fun | 29 => 173 | n => n, fun | 22 => 22 | 3 => 3 | 4 => 4 | 25 => 39 | 54 => 225 | 0 => 0 | 5 => 5 | n => n, fun | 1 => 1 | n => n⟩
theorem Tryz.tz64 : Go.Proofs.Lays7.n29 Tryz.prog Tryz.tz64_ren := {
  mixed := by kernel_rfl
  f29 := Tryz.func173.trans (congrArg some (by kernel_rfl))
  t0 := Tryz.underlying0
  a0 := Tryz.isAgg0
  z0 := Tryz.sizeOf0
  v0 := Tryz.zeroValue0
  i0 := by kernel_rfl
  t3 := Tryz.underlying3
  a3 := Tryz.isAgg3
  z3 := Tryz.sizeOf3
  v3 := Tryz.zeroValue3
  i3 := by kernel_rfl
  t4 := Tryz.underlying4
  a4 := Tryz.isAgg4
  z4 := Tryz.sizeOf4
  v4 := Tryz.zeroValue4
  i4 := by kernel_rfl
  t5 := Tryz.underlying5
  a5 := Tryz.isAgg5
  z5 := Tryz.sizeOf5
  v5 := Tryz.zeroValue5
  i5 := by kernel_rfl
  t22 := Tryz.underlying22
  a22 := Tryz.isAgg22
  z22 := Tryz.sizeOf22
  v22 := Tryz.zeroValue22
  i22 := by kernel_rfl
  t25 := Tryz.underlying39
  a25 := Tryz.isAgg39
  z25 := Tryz.sizeOf39
  v25 := Tryz.zeroValue39
  i25 := by kernel_rfl
  t54 := Tryz.underlying225
  a54 := Tryz.isAgg225
  z54 := Tryz.sizeOf225
  g1 := by kernel_rfl }
theorem sortsA (m : Nat) : AnyZI.SortsIn Tryz.prog Tryz.sortedA_ren Fence.wide m :=
  ⟨fun blk off cap ss W hH hblk hsz => callsIn_wide.2 (AnyM.slices_Sort_int Tryz.sortA blk off cap ss W hH hblk hsz),
   fun p cap W => callsIn_wide.2 (AnyM.slices_Sort_int_none Tryz.sortA p cap W)⟩
set_option maxHeartbeats 1000000 in
set_option maxRecDepth 100000 in
/-- Pages: a new slice that holds the pages, rising. -/
theorem pages_at {w : World} {a mb q : Nat} {D : DW} {ps : List Nat} {mem : Nat → Nat} (h : SlabAt w a mb D ps q mem) :
    Calls Tryz.prog 82 #[.pointer (some ⟨a, 0, none⟩)] w fun e w' => ∃ (v : Value) (ss : List Int), e = .returned v ∧ ss.Perm (intKeys D) ∧
      w'.ownsRow w.heap.size 3 1 v ss.length ((ss.mergeSort (fun x y => decide (x ≤ y))).map encZ) ∧ (v = .slice none 0 0 ↔ ss = []) ∧ Below w.heap.size w w' := by
  refine (callsIn_wide (n := 6)).1 ?_
  have hown := h.own
  have hbl := hown.lt
  have hmax : Maps.size D ≤ maxLen := by have := h.room; have := h.quota; unfold maxLen; omega
  have hbytes : Maps.size D * 8 ≤ 140737488355328 := by have := h.room; have := h.quota; omega
  have hseq : SeqGives Fence.wide 2 Tryz.prog 137 #[.pointer (some ⟨w.heap.size, 0, none⟩)] encZ (fun ss => ss.Perm (intKeys D)) (Maps.size D) (w.alloc (.cells #[.map (some mb)] 116)) :=
    AnyZI.keys_gives (ρ := Tryz.keysA_ren) { Tryz.keysA with } Fence.wide _ trivial rfl (by omega) w.heap.size mb _ D _ (by simp) (by simp) (by
      obtain ⟨es, clock, hb, Ft, hs, hD⟩ := hown
      exact ⟨es, clock, (Below.heap_alloc _ _ mb hbl).trans hb, Ft, hs, hD⟩)
  have cK : ∀ mb W, CallsIn Fence.wide 5 Tryz.prog 111 #[.map mb] W fun e w' => e = .returned (.func (.func 137) #[] #[.pointer (some ⟨W.heap.size, 0, none⟩)]) ∧ w' = W.alloc (.cells #[.map mb] 116) := fun mb W => AnyZI.keys_in Tryz.keysA Fence.wide 5 trivial rfl mb W
  have cS := AnyZI.sorted_in Tryz.sortedA Fence.wide 5 trivial trivial trivial trivial rfl (by omega) (sortsA _) (enters_of Tryz.func136 (by kernel_rfl) rfl) 137 #[.pointer (some ⟨w.heap.size, 0, none⟩)] trivial (enters_of Tryz.func137 (by kernel_rfl) rfl) _ _ hmax hbytes _ hseq
  change CallsIn _ _ Tryz.prog 110 _ _ _ at cS
  have hN := callsIn_wide (n := 5) |>.2 (slabNone_at h)
  have hcm := h.cm
  have hfK : Fence.wide.fn 111 := trivial
  have hfS : Fence.wide.fn 110 := trivial
  have hNH := Lib.hid hN
  have hfN : Fence.wide.fn 109 := trivial
  clear h hmax hbytes hbl hown hN
  refine callsIn_of_wp Tryz.func82 rfl trivial ?_ rfl
  simp only [Tryz.ntmps82, List.size_toArray, List.length_cons, List.length_nil, Nat.reduceAdd, Nat.reduceSub, Array.replicate_succ, Array.replicate_zero, List.push_toArray, List.append_toArray, List.nil_append, List.cons_append]
  gi_wp2_with (first
    | (gi_at_call 109; refine hNH.out.mono ?_; rintro e w' ⟨rfl, rfl⟩)
    | (gi_at_call 111; refine (cK _ _).mono ?_; rintro e w' ⟨rfl, rfl⟩)
    | (gi_at_call 110; refine cS.mono ?_; rintro e w' ⟨v, ss, rfl, hS, hrow, hnil, hb⟩))
  go_ret
  exact ⟨v, ss, rfl, hS, ownsRow_base_a hrow (by simp), hnil, ((Below.refl _ w).alloc (Nat.le_refl _) _).trans (hb.mono (by simp))⟩
theorem has_iff {w : World} {a mb q : Nat} {D : DW} {ps : List Nat} {mem : Nat → Nat} (h : SlabAt w a mb D ps q mem) (x : Int) : Maps.has D (.int .i64 x) = true ↔ ∃ k ∈ ps, x = (k : Nat) := by
  rw [← h.pages x]
  refine ⟨h.full x, fun hh => ?_⟩
  cases hs : Maps.has D (.int .i64 x) with
  | true => rfl
  | false => exact absurd (by unfold pgOf; rw [Maps.atKey_of_not_has hs]; rfl) hh
theorem pages_sorted {w : World} {a mb q : Nat} {D : DW} {ps : List Nat} {mem : Nat → Nat} (h : SlabAt w a mb D ps q mem) (hr : ps.Pairwise (· < ·)) {ss : List Int} (hp : ss.Perm (intKeys D)) :
    ss.length = ps.length ∧ (ss.mergeSort (fun x y => decide (x ≤ y))).map encZ = ps.map fun p : Nat => Value.int .i64 (p : Int) := by
  obtain ⟨es, rfl, hpw⟩ := World.ownsMap.tidy h.own keyedInt
  have h1 : (ps.map fun p : Nat => (p : Int)).Perm (intKeys (.map es)) := by
    refine perm_intKeys hpw ?_ ?_ ?_
    · intro p hp
      obtain ⟨x, hx⟩ := h.keys p.1 (by
        rw [Maps.has_eq, List.any_eq_true]
        refine ⟨p, hp, ?_⟩
        obtain ⟨es', e1, e2, e3⟩ := World.ownsMap.entries h.own keyedInt
        cases e1
        exact WideAt.sameKey_self (e3 p hp))
      exact ⟨x, hx⟩
    · refine List.Pairwise.imp (S := fun a b => a ≠ b) (fun hab => ?_) ((List.pairwise_map.2 (hr.imp (S := fun (a b : Nat) => (a : Int) < (b : Int)) (fun hab => by omega))))
      omega
    · intro x
      rw [has_iff h x]
      simp only [List.mem_map]
      exact ⟨fun ⟨k, hk, e⟩ => ⟨k, hk, e.symm⟩, fun ⟨k, hk, e⟩ => ⟨k, hk, e.symm⟩⟩
  have h2 : ss.Perm (ps.map fun p : Nat => (p : Int)) := hp.trans h1.symm
  have h3 : ss.mergeSort (fun x y => decide (x ≤ y)) = ps.map fun p : Nat => (p : Int) := by
    refine List.Perm.eq_of_pairwise (le := fun x y => x ≤ y) (fun a b _ _ h1 h2 => by omega) ?_ ?_ ((List.mergeSort_perm _ _).trans h2)
    · have := List.pairwise_mergeSort (le := fun x y : Int => decide (x ≤ y)) (fun a b c h1 h2 => by simp at *; omega) (fun a b => by simp; omega) ss
      exact this.imp (fun hab => by simpa using hab)
    · exact List.pairwise_map.2 (hr.imp (fun hab => by omega))
  refine ⟨by rw [h2.length_eq, List.length_map], ?_⟩
  rw [h3, List.map_map]
  rfl
theorem pages_row {w : World} {a mb q : Nat} {D : DW} {ps : List Nat} {mem : Nat → Nat} (h : SlabAt w a mb D ps q mem) (hr : ps.Pairwise (· < ·)) :
    Calls Tryz.prog 82 #[.pointer (some ⟨a, 0, none⟩)] w fun e w' => ∃ v, e = .returned v ∧ w'.ownsRow w.heap.size 3 1 v ps.length (ps.map fun p : Nat => Value.int .i64 (p : Int)) ∧ Below w.heap.size w w' :=
  (pages_at h).mono fun e w' ⟨v, ss, he, hp, hrow, _, hb⟩ => by
    obtain ⟨h1, h2⟩ := pages_sorted h hr hp
    rw [h1, h2] at hrow
    exact ⟨v, he, hrow, hb⟩
theorem slab_new (w : World) (q : Nat) (hq : q ≤ 262144) (t : TypeId) : SlabAt ((w.alloc (.map #[] 0)).alloc (.cells #[.int .i64 (q : Nat), .map (some w.heap.size)] t)) (w.heap.size + 1) w.heap.size (.map []) [] q (fun _ => 0) := by
  have hno : ∀ p : Int, pgOf (.map []) p = none := fun p => rfl
  refine ⟨?_, ?_, ?_, ?_, ?_, List.Pairwise.nil, rfl, ?_, ?_, hq, by simp, ?_, ?_, ?_, fun _ => by omega⟩
  · go_simp
  · go_simp
  · exact (World.ownsMap_made w _ _ _).alloc _
  · simp [Maps.size]
  · intro p; rw [hno]; simp
  · intro p h; simp [Maps.has] at h
  · intro k h; simp [Maps.has] at h
  · intro p g h; rw [hno] at h; cases h
  · intro p p' g h; rw [hno] at h; cases h
  · intro p g h; rw [hno] at h; cases h
set_option maxRecDepth 100000 in
theorem slabNew_at (q : Nat) (hq : q ≤ 262144) (w : World) :
    Calls Tryz.prog 49 #[.int .i64 (q : Nat)] w fun e w' => ∃ a mb, e = .returned (.tuple #[.pointer (some ⟨a, 0, none⟩), .int .i64 0]) ∧ SlabAt w' a mb (.map []) [] q (fun _ => 0) ∧ w.heap.size ≤ a ∧ w.heap.size ≤ mb ∧ Below w.heap.size w w' := by
  have d1 : decide ((q : Int) < 0) = false := by simp
  have d2 : decide ((262144 : Int) < (q : Int)) = false := by simp; omega
  have hmk := fun w => run_makeMap (P := Tryz.prog) 116 w
  go_enter Tryz.func49, Tryz.ntmps49
  go_wp2
  go_ret2
  exact ⟨w.heap.size + 1, w.heap.size, rfl, slab_new w q hq _, by omega, Nat.le_refl _, ((Below.refl _ w).alloc (Nat.le_refl _) _).alloc (by simp) _⟩
/-- an arena that has shrunk: the map's block alone has turned -/
def Sh (w : World) (D : DW) (w' : World) (D' : DW) (mb : Nat) : Prop := w.mapTurned w' mb ∧ ∀ p g : Nat, pgOf D' (p : Nat) = some g → pgOf D (p : Nat) = some g
theorem SlabAt.drop1 {w : World} {a mb q : Nat} {D : DW} {ps : List Nat} {mem : Nat → Nat} {p n : Nat} (h : SlabAt w a mb D (p :: ps) q mem) {w' : World}
    (hown : PageMap w' mb n (D.del (.int .i64 (p : Nat)))) (hturn : w.mapTurned w' mb) : SlabAt w' a mb (D.del (.int .i64 (p : Nat))) ps q mem ∧ Sh w D w' (D.del (.int .i64 (p : Nat))) mb := by
  have ham := map_block_ne h.own h.cq
  have htidy : Maps.Tidy D := World.ownsMap.tidy h.own keyedInt
  have hgr := hturn.grown
  have hblk : ∀ k, k < w.heap.size → k ≠ mb → w'.heap[k]? = w.heap[k]? := fun k hk hne => hgr.block k hk (by simpa using hne)
  have hdel : ∀ x : Int, pgOf (D.del (.int .i64 (p : Nat))) x = if x = (p : Nat) then none else pgOf D x := fun x => pgOf_del _ _
  have hold : ∀ x g : Nat, pgOf (D.del (.int .i64 (p : Nat))) (x : Nat) = some g → pgOf D (x : Nat) = some g := fun x g hg => by
    rw [hdel] at hg
    by_cases hx : (x : Int) = (p : Nat)
    · rw [if_pos hx] at hg; cases hg
    · rwa [if_neg hx] at hg
  have hhas : Maps.has D (.int .i64 (p : Nat)) = true := (has_iff h _).2 ⟨p, by simp, rfl⟩
  have hnd := List.nodup_cons.1 h.nodup
  have hsz : Maps.size (D.del (.int .i64 (p : Nat))) = ps.length := by
    have h1 := Maps.size_del (k := .int .i64 (p : Nat)) htidy
    rw [hhas, if_pos rfl, h.count, List.length_cons] at h1
    omega
  refine ⟨⟨?_, ?_, hown.tight, ?_, ?_, hnd.2, hsz, ?_, ?_, h.quota, ?_, ?_, ?_, ?_, h.word⟩, hturn, hold⟩
  · exact (World.cell?_of_block (a := ⟨a, 0, none⟩) (hblk a (cell_lt (a := ⟨a, 0, none⟩) h.cq) ham)).trans h.cq
  · exact (World.cell?_of_block (a := ⟨a, 1, none⟩) (hblk a (cell_lt (a := ⟨a, 0, none⟩) h.cq) ham)).trans h.cm
  · have := h.room; rw [h.count, List.length_cons] at this; rw [hsz]; omega
  · intro x
    rw [hdel]
    by_cases hx : x = (p : Nat)
    · rw [if_pos hx]
      refine ⟨fun hh => absurd rfl hh, ?_⟩
      rintro ⟨k, hk, rfl⟩
      obtain rfl : k = p := by omega
      exact absurd hk hnd.1
    · rw [if_neg hx, h.pages x]
      constructor
      · rintro ⟨k, hk, rfl⟩
        rcases List.mem_cons.1 hk with rfl | h1
        · exact absurd rfl hx
        · exact ⟨k, h1, rfl⟩
      · rintro ⟨k, hk, rfl⟩
        exact ⟨k, List.mem_cons_of_mem _ hk, rfl⟩
  · intro x hx
    by_cases hxp : x = (p : Nat)
    · subst hxp; rw [Maps.has_del_same] at hx; cases hx
    · rw [Maps.has_del_other (by simpa using hxp)] at hx
      rw [hdel, if_neg hxp]
      exact h.full x hx
  · intro k hk
    by_cases hkp : k = .int .i64 (p : Nat)
    · exact ⟨_, hkp⟩
    · rw [Maps.has_del_other hkp] at hk
      exact h.keys k hk
  · intro x hx; exact h.low x (List.mem_cons_of_mem _ hx)
  · intro x g hg k hk
    have hg' := hold x g hg
    have hw := h.words x g hg' k hk
    have hb := hblk g (cell_lt (a := ⟨g, k, none⟩) hw.1) (map_block_ne h.own hw.1)
    exact ⟨(World.cell?_of_block (a := ⟨g, k, none⟩) hb).trans hw.1, (World.frozen?_of_block (a := ⟨g, k, none⟩) hb).trans hw.2⟩
  · intro x x' g hg hg'; exact h.inj x x' g (hold _ _ hg) (hold _ _ hg')
  · intro x g hg; exact h.off x g (hold _ _ hg)
theorem Sh.refl {w : World} {a mb q : Nat} {D : DW} {ps : List Nat} {mem : Nat → Nat} (h : SlabAt w a mb D ps q mem) : Sh w D w D mb := ⟨World.ownsMap.turned_refl h.own, fun _ _ h => h⟩
theorem Sh.trans {w w1 w2 : World} {D D1 D2 : DW} {mb : Nat} (h : Sh w D w1 D1 mb) (k : Sh w1 D1 w2 D2 mb) : Sh w D w2 D2 mb := ⟨h.1.trans k.1, fun p g hp => h.2 p g (k.2 p g hp)⟩
set_option maxRecDepth 100000 in
set_option maxHeartbeats 1000000 in
theorem release_at {w : World} {a mb q : Nat} {D : DW} {ps : List Nat} {mem : Nat → Nat} (f n : Nat) (h : SlabAt w a mb D (List.range' f n ++ ps) q mem) (hn : 1 ≤ n) (hn2 : n ≤ 4096) :
    Calls Tryz.prog 147 #[.pointer (some ⟨a, 0, none⟩), .int .i64 (f : Nat), .int .i64 (n : Nat)] w fun e w' => ∃ D', e = .returned (.int .i64 0) ∧ SlabAt w' a mb D' ps q mem ∧ Sh w D w' D' mb := by
  have hcm := h.cm
  have hown := h.own
  have hN := Lib.hid (slabNone_at h)
  have hlow := h.low (f + (n - 1)) (List.mem_append_left _ (by rw [List.mem_range'_1]; omega))
  have d1 : decide ((n : Int) < 1) = false := by simp; omega
  have d2 : decide ((4096 : Int) < (n : Int)) = false := by simp; omega
  have d3 : decide ((f : Int) < 0) = false := by simp
  have d4 : decide ((1048575 : Int) - (n : Int) + 1 < (f : Int)) = false := by simp; omega
  have hH := Lib.hid h
  clear h
  go_enter Tryz.func147, Tryz.ntmps147
  go_wp2_with (go_at_call 109; refine hN.out.mono ?_; rintro e w' ⟨rfl, rfl⟩)
  clear d1 d2 d3 d4 hN
  go_loopw [31] (fun kv wr => ∃ k : Nat, k ≤ n ∧ kv = .int .i64 k ∧ wr = w) (fun kv _ => n - (intOf kv).toNat)
  case atStart => exact ⟨0, by omega, rfl, rfl⟩
  case round =>
    obtain ⟨k, hk, rfl, hwr⟩ := hrel
    subst hwr
    by_cases hkn : k < n
    · obtain ⟨g, hg⟩ := hH.out.page (p := f + k) (List.mem_append_left _ (by rw [List.mem_range'_1]; omega))
      have hgH := Lib.hid hg
      clear hg
      go_wp2_with (at_lookup; refine wpList_look_page _ rfl _ _ rfl mb _ D rfl hown ((f : Int) + (k : Int)) rfl (by omega) (by omega) ?_; rw [show (f : Int) + (k : Int) = ((f + k : Nat) : Int) by push_cast; rfl, hgH.out]; dsimp only [pgV])
      go_roundw
      case rel => exact ⟨k + 1, by omega, by go_num, by trivial⟩
      case measure => simp [intOf]; omega
    · obtain rfl : k = n := by omega
      obtain ⟨wo, rfl⟩ : ∃ wo : World, wo = wr := ⟨_, rfl⟩
      go_wp2
      go_loopw [45] (fun jv wj => ∃ j : Nat, j ≤ k ∧ jv = .int .i64 j ∧ ∃ D', SlabAt wj a mb D' (List.range' (f + j) (k - j) ++ ps) q mem ∧ Sh wo D wj D' mb) (fun jv _ => k - (intOf jv).toNat)
      case atStart => exact ⟨0, by omega, rfl, D, hH.out, Sh.refl hH.out⟩
      case round =>
        obtain ⟨j, hj, rfl, D', hS, hSh⟩ := hrel
        by_cases hjk : j < k
        · have hm := hS.own
          have hcm2 := hS.cm
          have hSH := Lib.hid hS
          have hGH := Lib.hid hSh
          clear hS hSh hcm hown
          go_wp2_with (at_delete; refine wpList_delete_own _ rfl _ _ 116 3 rfl 166 keyedInt Tryz.underlying116 pageElem mb _ D' rfl hm _ (.int .i64 ((f + j : Nat) : Int)) rfl (keyInt (p := ((f + j : Nat) : Int)) (by omega) (by omega)) ?_; intro w1 hown1 hturn1)
          have hS2 := hSH.out
          rw [show k - j = (k - (j + 1)) + 1 by omega, List.range'_succ, List.cons_append] at hS2
          have hd1 := hS2.drop1 hown1 hturn1
          go_wp2
          go_roundw
          case rel => exact ⟨j + 1, by omega, by go_num, _, hd1.1, hGH.out.trans hd1.2⟩
          case measure => simp [intOf]; omega
        · obtain rfl : j = k := by omega
          have hSH := Lib.hid hS
          have hGH := Lib.hid hSh
          clear hS hSh hcm hown
          go_wp2
          go_ret
          exact ⟨D', rfl, by simpa using hSH.out, hGH.out⟩
end Go.Proofs.YtoifdmbffaaffaaGreatDoor
/- The walks of the package bits. -/
set_option linter.unusedVariables false
set_option linter.unusedSimpArgs false
namespace Go.Proofs.YtoifdmbffaaffaaGreatDoor
open Go.RowKit Go.Shelf
theorem pow_lt64 {k : Nat} (hk : k < 64) : 2 ^ k < 18446744073709551616 := Nat.lt_of_lt_of_le (Nat.pow_lt_pow_of_lt (by omega) hk) (by decide)
theorem wrap_nat {x : Nat} (h : x < 18446744073709551616) : IntKind.u64.wrap (x : Int) = (x : Int) := by rw [IntKind.wrap_u64]; omega
theorem wrap_pow {k : Nat} (hk : k < 64) : IntKind.u64.wrap ((2 : Int) ^ k) = ((2 ^ k : Nat) : Int) := by
  have h := pow_lt64 hk
  rw [show ((2 : Int) ^ k) = ((2 ^ k : Nat) : Int) by push_cast; rfl, wrap_nat h]
theorem bits_has (m k : Nat) (hm : m < 18446744073709551616) : (bits BinOp.and IntKind.u64 ((m : Int) / 2 ^ k) 1 == 1) = m.testBit k := by
  have h1 : ((m : Int) / 2 ^ k) = ((m / 2 ^ k : Nat) : Int) := by push_cast; rfl
  have h2 : m / 2 ^ k < 18446744073709551616 := Nat.lt_of_le_of_lt (Nat.div_le_self _ _) hm
  rw [h1, show (1 : Int) = ((1 : Nat) : Int) from rfl, bits_and_u64_nat _ _ h2 (by omega), Nat.and_one_is_mod, Nat.testBit_eq_decide_div_mod_eq]
  by_cases h : m / 2 ^ k % 2 = 1
  · simp [h]
  · have : m / 2 ^ k % 2 = 0 := by omega
    simp [this]
theorem bits_set (m k : Nat) (hm : m < 18446744073709551616) (hk : k < 64) : bits BinOp.or IntKind.u64 (m : Int) (IntKind.u64.wrap ((2 : Int) ^ k)) = ((m ||| 2 ^ k : Nat) : Int) := by
  rw [wrap_pow hk, bits_or_u64_nat _ _ hm (pow_lt64 hk)]
theorem bits_clear (m k : Nat) (hm : m < 18446744073709551616) (hk : k < 64) (ht : m.testBit k = true) : bits BinOp.andNot IntKind.u64 (m : Int) (IntKind.u64.wrap ((2 : Int) ^ k)) = ((m ^^^ 2 ^ k : Nat) : Int) := by
  have hp := pow_lt64 hk
  rw [wrap_pow hk]
  have h1 : (BitVec.ofInt 64 (m : Int)).toNat = m := by
    rw [BitVec.ofInt_natCast, BitVec.toNat_ofNat]; exact Nat.mod_eq_of_lt (by omega)
  have h2 : (BitVec.ofInt 64 ((2 ^ k : Nat) : Int)).toNat = 2 ^ k := by
    rw [BitVec.ofInt_natCast, BitVec.toNat_ofNat]; exact Nat.mod_eq_of_lt (by omega)
  have h3 : (BitVec.ofInt 64 (m : Int) &&& ~~~ BitVec.ofInt 64 ((2 ^ k : Nat) : Int)).toNat = m ^^^ 2 ^ k := by
    rw [BitVec.toNat_and, BitVec.toNat_not, h1, h2]
    apply Nat.eq_of_testBit_eq
    intro j
    rw [Nat.testBit_and, show 2 ^ 64 - 1 - 2 ^ k = 2 ^ 64 - (2 ^ k + 1) by omega, Nat.testBit_two_pow_sub_succ (by omega), Nat.testBit_two_pow, testBit_clear ht]
    by_cases hj : j < 64
    · simp [hj]
    · have : m.testBit j = false := Nat.testBit_lt_two_pow (Nat.lt_of_lt_of_le hm (by have := Nat.pow_le_pow_right (n := 2) (by omega) (show 64 ≤ j by omega); exact this))
      simp [this]
  have h4 : m ^^^ 2 ^ k < 18446744073709551616 := Nat.xor_lt_two_pow (n := 64) hm hp
  show IntKind.u64.wrap ((BitVec.ofInt 64 (m : Int) &&& ~~~ BitVec.ofInt 64 ((2 ^ k : Nat) : Int)).toNat : Int) = _
  rw [h3, wrap_nat h4]
theorem wrap_full (n : Nat) (hn : n < 64) : IntKind.u64.wrap (IntKind.u64.wrap ((2 : Int) ^ n) - 1) = ((2 ^ n - 1 : Nat) : Int) := by
  have h := pow_lt64 hn
  have h1 := Nat.one_le_two_pow (n := n)
  rw [wrap_pow hn, show ((2 ^ n : Nat) : Int) - 1 = ((2 ^ n - 1 : Nat) : Int) by omega, wrap_nat (by omega)]
set_option maxRecDepth 100000 in
theorem has_at (m k : Nat) (hm : m < 18446744073709551616) (hk : k < 64) (w : World) :
    Calls Tryz.prog 96 #[.int .u64 (m : Nat), .int .i64 (k : Nat)] w fun e w' => e = .returned (.bool (m.testBit k)) ∧ w = w' := by
  have hH := Lib.hid (bits_has m k hm)
  go_enter Tryz.func96, Tryz.ntmps96
  go_wp2
  go_ret
  rw [← hH.out]
  exact ⟨rfl, rfl⟩
set_option maxRecDepth 100000 in
theorem set_at (m k : Nat) (hm : m < 18446744073709551616) (hk : k < 64) (w : World) :
    Calls Tryz.prog 157 #[.int .u64 (m : Nat), .int .i64 (k : Nat)] w fun e w' => e = .returned (.tuple #[.int .u64 ((m ||| 2 ^ k : Nat) : Int), .int .i64 0]) ∧ w = w' := by
  have hH := Lib.hid (bits_set m k hm hk)
  go_enter Tryz.func157, Tryz.ntmps157
  go_wp2
  go_ret2
  rw [← hH.out]
  exact ⟨rfl, rfl⟩
set_option maxRecDepth 100000 in
theorem clear_at (m k : Nat) (hm : m < 18446744073709551616) (hk : k < 64) (ht : m.testBit k = true) (w : World) :
    Calls Tryz.prog 159 #[.int .u64 (m : Nat), .int .i64 (k : Nat)] w fun e w' => e = .returned (.tuple #[.int .u64 ((m ^^^ 2 ^ k : Nat) : Int), .int .i64 0]) ∧ w = w' := by
  have hH := Lib.hid (bits_clear m k hm hk ht)
  clear ht
  go_enter Tryz.func159, Tryz.ntmps159
  go_wp2
  go_ret2
  rw [← hH.out]
  exact ⟨rfl, rfl⟩
set_option maxRecDepth 100000 in
theorem full_at (n : Nat) (hn : n < 64) (w : World) :
    Calls Tryz.prog 112 #[.int .i64 (n : Nat)] w fun e w' => e = .returned (.int .u64 ((2 ^ n - 1 : Nat) : Int)) ∧ w = w' := by
  have hH := Lib.hid (wrap_full n hn)
  go_enter Tryz.func112, Tryz.ntmps112
  go_wp2
  go_ret
  rw [← hH.out]
  exact ⟨rfl, rfl⟩
set_option maxRecDepth 100000 in
theorem cut1_at (m f B : Nat) (hm : m < 18446744073709551616) (hf : f < 18446744073709551616) (w : World) (hc : w.cell? ⟨B, 0, none⟩ = some (.int .u64 (f : Nat))) :
    Calls Tryz.prog 180 #[.int .u64 (m : Nat), .pointer (some ⟨B, 0, none⟩)] w fun e w' => e = .returned (.int .u64 ((m &&& f : Nat) : Int)) ∧ w = w' := by
  have hH := Lib.hid (bits_and_u64_nat m f hm hf)
  go_enter Tryz.func180, Tryz.ntmps180
  go_wp2
  go_ret
  rw [← hH.out]
  exact ⟨rfl, rfl⟩
set_option maxRecDepth 100000 in
theorem cut_at (n : Nat) (hn : n < 64) (w : World) :
    Calls Tryz.prog 172 #[.int .i64 (n : Nat)] w fun e w' => e = .returned (.func (.func 180) #[] #[.pointer (some ⟨w.heap.size, 0, none⟩)]) ∧ w' = w.alloc (.cells #[.int .u64 ((2 ^ n - 1 : Nat) : Int)] 22) := by
  have hp := Nat.lt_of_le_of_lt (Nat.sub_le _ 1) (pow_lt64 hn)
  generalize hx : 2 ^ n - 1 = x at *
  have hF := Lib.hid (full_at n hn)
  rw [hx] at hF
  clear hx
  go_enter Tryz.func172, Tryz.ntmps172
  go_wp2_with (go_at_call 112; refine (hF.out _).mono ?_; rintro e w' ⟨rfl, rfl⟩)
  go_ret
  exact ⟨rfl, rfl⟩
/-- the library's table, as start-up code lays it -/
def Tab (w : World) : Prop := TabAt 1 Lib.deBruijn64tab w
theorem Tab.below {w w' : World} {B : Nat} (h : Tab w) (hB : Below B w w') (hlt : 1 < B) : Tab w' := fun j hj => (hB.cell (p := ⟨1, j, none⟩) hlt).trans (h j hj)
theorem tz_at (x : Nat) (hx : x < 18446744073709551616) (w : World) (hT : Tab w) :
    Calls Tryz.prog 173 #[.int .u64 (x : Nat)] w fun e w' => e = .returned (.int .i64 (Lib.ctz 64 x : Nat)) ∧ w' = w := Any7.bits_TrailingZeros64 Tryz.tz64 x hx w (fun _ => hT)
theorem not_bits (m : Nat) (hm : m < 18446744073709551616) (j : Nat) : (18446744073709551615 - m).testBit j = (decide (j < 64) && !m.testBit j) := by
  rw [show 18446744073709551615 - m = 2 ^ 64 - (m + 1) by omega, Nat.testBit_two_pow_sub_succ (by omega)]
/-- what Free answers: a number below n that is not there; or -1, where all are -/
def FreeR (m n : Nat) (r : Int) : Prop := (r = -1 ∧ ∀ k, k < n → m.testBit k = true) ∨ ∃ k, k < n ∧ r = (k : Nat) ∧ m.testBit k = false
theorem xor_max (m : Nat) (hm : m < 18446744073709551616) : bits BinOp.xor IntKind.u64 IntKind.u64.max (m : Int) = ((18446744073709551615 - m : Nat) : Int) := by
  rw [show IntKind.u64.max = ((18446744073709551615 : Nat) : Int) from rfl, bits_xor_u64_nat _ _ (by omega) hm]
  congr 1
  apply Nat.eq_of_testBit_eq
  intro j
  rw [not_bits m hm, Nat.testBit_xor, show 18446744073709551615 = 2 ^ 64 - 1 by rfl, Nat.testBit_two_pow_sub_one]
  by_cases hj : j < 64
  · simp [hj]
  · have : m.testBit j = false := Nat.testBit_lt_two_pow (Nat.lt_of_lt_of_le hm (by have := Nat.pow_le_pow_right (n := 2) (by omega) (show 64 ≤ j by omega); exact this))
    simp [hj, this]
theorem free_left (m n : Nat) (hm : m < 18446744073709551616) (hn : n < 64) (j : Nat) : ((18446744073709551615 - m) &&& (2 ^ n - 1)).testBit j = (decide (j < n) && !m.testBit j) := by
  rw [Nat.testBit_and, not_bits m hm, Nat.testBit_two_pow_sub_one]
  by_cases hj : j < n
  · simp [hj, show j < 64 by omega]
  · simp [hj]
theorem freeR_of (m n : Nat) (hm : m < 18446744073709551616) (hn : n < 64) (x : Nat) (hx : x = (18446744073709551615 - m) &&& (2 ^ n - 1)) :
    (x = 0 → FreeR m n (-1)) ∧ (x ≠ 0 → FreeR m n (Lib.ctz 64 x : Nat)) := by
  have hb := free_left m n hm hn
  rw [← hx] at hb
  constructor
  · intro h0
    refine .inl ⟨rfl, fun k hk => ?_⟩
    have := hb k
    rw [h0, Nat.zero_testBit, decide_eq_true hk] at this
    simpa using this.symm
  · intro h0
    have hx64 : x < 2 ^ 64 := by rw [hx]; exact Nat.and_lt_two_pow _ (Nat.lt_of_le_of_lt (Nat.sub_le _ _) (pow_lt64 hn))
    obtain ⟨hl, hc⟩ := Lib.lowest_bit 64 x h0 hx64
    have ht : x.testBit (Lib.ctz 64 x) = true := by
      have := congrArg (fun y => y.testBit (Lib.ctz 64 x)) hl
      simp only [Nat.testBit_and, Nat.testBit_two_pow_self] at this
      cases hh : x.testBit (Lib.ctz 64 x) with
      | true => rfl
      | false => rw [hh] at this; simp at this
    rw [hb] at ht
    simp only [Bool.and_eq_true, decide_eq_true_eq, Bool.not_eq_true'] at ht
    exact .inr ⟨_, ht.1, rfl, ht.2⟩
set_option maxRecDepth 100000 in
theorem free_at (m n : Nat) (hm : m < 18446744073709551616) (hn : n < 64) (w : World) (hT : Tab w) (hg : 1 < w.heap.size) :
    Calls Tryz.prog 156 #[.int .u64 (m : Nat), .int .i64 (n : Nat)] w fun e w' => ∃ r, e = .returned (.int .i64 r) ∧ FreeR m n r ∧ w' = w.alloc (.cells #[.int .u64 ((2 ^ n - 1 : Nat) : Int)] 22) := by
  have hp := Nat.lt_of_le_of_lt (Nat.sub_le _ 1) (pow_lt64 hn)
  have hF := freeR_of m n hm hn _ rfl
  have hx64 : (18446744073709551615 - m) &&& (2 ^ n - 1) < 18446744073709551616 := Nat.and_lt_two_pow (n := 64) _ hp
  have hC := Lib.hid (cut_at n hn)
  generalize hf : 2 ^ n - 1 = f at *
  have hC1 := Lib.hid (fun w' h => cut1_at (18446744073709551615 - m) f w.heap.size (by omega) hp w' h)
  generalize hxe : (18446744073709551615 - m) &&& f = x at *
  have hT2 : Tab (w.alloc (.cells #[.int .u64 (f : Nat)] 22)) := hT.below ((Below.refl _ w).alloc (Nat.le_refl _) _) hg
  have hZ := Lib.hid (tz_at x hx64 _ hT2)
  have hFH := Lib.hid hF
  clear hF hxe hf hT hT2
  have hnot := Lib.hid (xor_max m hm)
  have hmax : (if IntKind.u64.signed = true then -1 else IntKind.u64.max) = IntKind.u64.max := rfl
  have hcell : (w.alloc (.cells #[.int .u64 (f : Nat)] 22)).cell? ⟨w.heap.size, 0, none⟩ = some (.int .u64 (f : Nat)) := by go_simp
  by_cases h0 : x = 0
  · have hb : ((x : Int) == 0) = true := by simp [h0]
    have h0H := Lib.hid h0
    clear h0
    go_enter Tryz.func156, Tryz.ntmps156
    go_wp2_with (first | (go_at_call 172; refine (hC.out _).mono ?_; rintro e w' ⟨rfl, rfl⟩) | (go_at_call 180; (first | rw [hnot.out] | rw [hmax, hnot.out]); refine (hC1.out _ hcell).mono ?_; rintro e w' ⟨rfl, rfl⟩))
    go_ret
    exact ⟨_, rfl, hFH.out.1 h0H.out, rfl⟩
  · have hb : ((x : Int) == 0) = false := by simp; omega
    have h0H := Lib.hid h0
    clear h0
    go_enter Tryz.func156, Tryz.ntmps156
    go_wp2_with (first | (go_at_call 172; refine (hC.out _).mono ?_; rintro e w' ⟨rfl, rfl⟩) | (go_at_call 180; (first | rw [hnot.out] | rw [hmax, hnot.out]); refine (hC1.out _ hcell).mono ?_; rintro e w' ⟨rfl, rfl⟩) | (go_at_call 173; refine hZ.out.mono ?_; rintro e w' ⟨rfl, rfl⟩))
    go_ret
    exact ⟨_, rfl, hFH.out.2 h0H.out, rfl⟩
end Go.Proofs.YtoifdmbffaaffaaGreatDoor
/- The walks of the package heap: heads, places. -/
set_option linter.unusedVariables false
set_option linter.unusedSimpArgs false
namespace Go.Proofs.YtoifdmbffaaffaaGreatDoor
open Go.RowKit Go.Shelf
/-- from one world to a later one: what lies outside of some blocks has not turned; the blocks are others, by new ones alone -/
structure Turn (w : World) (F : Nat → Prop) (w' : World) (F' : Nat → Prop) : Prop where
  os : w'.os = w.os
  tape : w'.tape = w.tape
  output : w'.output = w.output
  size : w.heap.size ≤ w'.heap.size
  keep : ∀ k, k < w.heap.size → ¬ F k → w'.heap[k]? = w.heap[k]?
  grow : ∀ k, F' k → F k ∨ w.heap.size ≤ k
theorem Turn.refl (w : World) (F : Nat → Prop) : Turn w F w F := ⟨rfl, rfl, rfl, Nat.le_refl _, fun _ _ _ => rfl, fun _ h => .inl h⟩
theorem Turn.trans {w w1 w2 : World} {F F1 F2 : Nat → Prop} (h : Turn w F w1 F1) (k : Turn w1 F1 w2 F2) : Turn w F w2 F2 where
  os := k.os.trans h.os
  tape := k.tape.trans h.tape
  output := k.output.trans h.output
  size := Nat.le_trans h.size k.size
  keep := fun i hi hF => by
    refine (k.keep i (Nat.lt_of_lt_of_le hi h.size) (fun hF1 => ?_)).trans (h.keep i hi hF)
    rcases h.grow i hF1 with h1 | h1
    · exact hF h1
    · omega
  grow := fun i hi => by
    rcases k.grow i hi with h1 | h1
    · exact h.grow i h1
    · exact .inr (Nat.le_trans h.size h1)
theorem Turn.below {w w' : World} {F : Nat → Prop} (h : Below w.heap.size w w') : Turn w F w' F := ⟨h.os, h.tape, h.output, h.size, fun k hk _ => h.block k hk, fun _ h => .inl h⟩
theorem Turn.to_below {w w' : World} {F F' : Nat → Prop} {B : Nat} (h : Turn w F w' F') (hB : B ≤ w.heap.size) (hF : ∀ k, F k → B ≤ k) : Below B w w' :=
  ⟨h.os, h.tape, h.output, h.size, fun k hk => h.keep k (by omega) (fun hf => by have := hF k hf; omega)⟩
theorem Turn.cell {w w' : World} {F F' : Nat → Prop} (h : Turn w F w' F') {p : Addr} {v : Value} (hc : w.cell? p = some v) (hF : ¬ F p.block) : w'.cell? p = some v :=
  (World.cell?_of_block (h.keep p.block (cell_lt hc) hF)).trans hc
theorem Turn.not {w w' : World} {F F' : Nat → Prop} (h : Turn w F w' F') {b : Nat} (hb : b < w.heap.size) (hF : ¬ F b) : ¬ F' b := fun hh => by
  rcases h.grow b hh with h1 | h1
  · exact hF h1
  · omega
theorem wrote_turn {w w' : World} {a mb x v : Nat} {D : DW} (h : Wrote w D x v w') : Turn w (SlabF a mb D) w' (SlabF a mb D) := by
  obtain ⟨g, hg, rfl⟩ := h
  exact ⟨rfl, rfl, rfl, by simp, fun k hk hF => Below.heap_setCell _ _ _ k (fun e => hF (.inr (.inr ⟨x / 64, by subst e; exact hg⟩))), fun _ h => .inl h⟩
theorem gr_turn {w w' : World} {a mb : Nat} {D D' : DW} (h : Gr w D w' D' mb) : Turn w (SlabF a mb D) w' (SlabF a mb D') :=
  ⟨h.1.os, h.1.tape, h.1.output, h.1.size, fun k hk hF => h.1.block k hk (fun e => hF (.inr (.inl (by cases e; rfl)))), fun k hk => by
    rcases hk with rfl | rfl | ⟨p, hp⟩
    · exact .inl (.inl rfl)
    · exact .inl (.inr (.inl rfl))
    · rcases h.2 p k hp with h1 | h1
      · exact .inl (.inr (.inr ⟨p, h1⟩))
      · exact .inr h1⟩
theorem sh_turn {w w' : World} {a mb : Nat} {D D' : DW} (h : Sh w D w' D' mb) : Turn w (SlabF a mb D) w' (SlabF a mb D') := by
  have hg := h.1.grown
  exact ⟨hg.os, hg.tape, hg.output, hg.size, fun k hk hF => hg.block k hk (fun e => hF (.inr (.inl (by cases e; rfl)))), fun k hk => by
    rcases hk with rfl | rfl | ⟨p, hp⟩
    · exact .inl (.inl rfl)
    · exact .inl (.inr (.inl rfl))
    · exact .inl (.inr (.inr ⟨p, h.2 p k hp⟩))⟩
/-- the heap: its struct, its arena -/
structure HeapAt (w : World) (ha a mb : Nat) (D : DW) (ps : List Nat) (q : Nat) (mem : Nat → Nat) : Prop where
  hs : w.cell? ⟨ha, 0, none⟩ = some (.pointer (some ⟨a, 0, none⟩))
  sl : SlabAt w a mb D ps q mem
  off : ¬ SlabF a mb D ha
  tab : Tab w
  tabF : ∀ b, SlabF a mb D b → 1 < b
theorem HeapAt.below {w w' : World} {ha a mb q : Nat} {D : DW} {ps : List Nat} {mem : Nat → Nat} (h : HeapAt w ha a mb D ps q mem) (hB : Below w.heap.size w w') : HeapAt w' ha a mb D ps q mem where
  hs := (hB.cell (p := ⟨ha, 0, none⟩) (cell_lt h.hs)).trans h.hs
  sl := h.sl.below hB (fun b hb => h.sl.lt hb)
  off := h.off
  tab := h.tab.below hB (Nat.lt_trans (h.tabF a (.inl rfl)) (h.sl.lt (.inl rfl)))
  tabF := h.tabF
/-- a step of the arena -/
theorem HeapAt.turn {w w' : World} {ha a mb q : Nat} {D D' : DW} {ps ps' : List Nat} {mem mem' : Nat → Nat} (h : HeapAt w ha a mb D ps q mem) (hs : SlabAt w' a mb D' ps' q mem') (ht : Turn w (SlabF a mb D) w' (SlabF a mb D')) : HeapAt w' ha a mb D' ps' q mem' where
  hs := (World.cell?_of_block (a := ⟨ha, 0, none⟩) (ht.keep ha (cell_lt h.hs) h.off)).trans h.hs
  sl := hs
  off := fun hh => by
    rcases ht.grow ha hh with h1 | h1
    · exact h.off h1
    · have := cell_lt h.hs; simp only at this; omega
  tab := fun j hj => by
    have hlt := Nat.lt_trans (h.tabF a (.inl rfl)) (h.sl.lt (.inl rfl))
    exact (World.cell?_of_block (a := ⟨1, j, none⟩) (ht.keep _ hlt (fun hf => Nat.lt_irrefl _ (h.tabF _ hf)))).trans (h.tab j hj)
  tabF := fun b hb => by
    rcases ht.grow b hb with h1 | h1
    · exact h.tabF b h1
    · exact Nat.lt_of_lt_of_le (Nat.lt_trans (h.tabF a (.inl rfl)) (h.sl.lt (.inl rfl))) h1
def hdV : Hd → Value
  | .small c m => .agg #[.int .i64 1, .int .i64 (c : Nat), .int .u64 (m : Nat)]
  | .large w => .agg #[.int .i64 2, .int .i64 ((w + 65) / 64 : Nat), .int .u64 (w : Nat)]
theorem and255 (k n : Nat) (hk : k < 256) (hn : k + 256 * n < 18446744073709551616) : bits BinOp.and IntKind.u64 ((k + 256 * n : Nat) : Int) 255 = (k : Nat) := by
  rw [show (255 : Int) = ((255 : Nat) : Int) from rfl, bits_and_u64_nat _ _ hn (by omega), show 255 = 2 ^ 8 - 1 from rfl, Nat.and_two_pow_sub_one_eq_mod]
  omega
theorem SlabAt.alloc {w : World} {a mb q : Nat} {D : DW} {ps : List Nat} {mem : Nat → Nat} (h : SlabAt w a mb D ps q mem) (o : Obj) : SlabAt (w.alloc o) a mb D ps q mem :=
  h.below ((Below.refl _ w).alloc (Nat.le_refl _) o) (fun b hb => h.lt hb)
set_option maxRecDepth 100000 in
theorem get_raw {w : World} {ha a mb q : Nat} {D : DW} {ps : List Nat} {mem : Nat → Nat} (h : HeapAt w ha a mb D ps q mem) (p k n m : Nat) (hp : p ∈ ps) (hk : k < 256) (hn : n < 1000000) (h1 : mem (64 * p) = k + 256 * n) (h2 : mem (64 * p + 1) = m) :
    Calls Tryz.prog 126 #[.pointer (some ⟨ha, 0, none⟩), .int .i64 (p : Nat)] w fun e w' => e = .returned (.agg #[.int .i64 (k : Nat), .int .i64 (n : Nat), .int .u64 (m : Nat)]) ∧ Below w.heap.size w w' := by
  have hp2 := h.sl.low p hp
  have hR1 := fun o => read_at (h.sl.alloc o) (64 * p) (by rw [show 64 * p / 64 = p by omega]; exact hp)
  have hR2 := fun o => read_at (h.sl.alloc o) (64 * p + 1) (by rw [show (64 * p + 1) / 64 = p by omega]; exact hp)
  rw [h1] at hR1
  rw [h2] at hR2
  have hA := Lib.hid (and255 k n hk (by omega))
  have hR1H := Lib.hid hR1
  have hR2H := Lib.hid hR2
  have hs := h.hs
  have hlt : ha < w.heap.size := cell_lt hs
  clear hR1 hR2 h h1 h2
  generalize hx : k + 256 * n = x at *
  have hxd : (x : Int) / 256 = (n : Nat) := by omega
  have hxl : x < 18446744073709551616 := by omega
  go_enter Tryz.func126, Tryz.ntmps126
  go_wp2_with (go_at_call 68; first | (rw [show ((p : Int) * 64 + 1) = ((64 * p + 1 : Nat) : Int) by push_cast; omega]; refine (hR2H.out _).mono ?_; rintro e w' ⟨rfl, rfl⟩) | (rw [show ((p : Int) * 64) = ((64 * p : Nat) : Int) by push_cast; omega]; refine (hR1H.out _).mono ?_; rintro e w' ⟨rfl, rfl⟩))
  rw [hA.out, show wrap64 ((k : Nat) : Int) = (k : Nat) by unfold wrap64; omega]
  refine bodyPost_ret_by (v := .agg #[.int .i64 (k : Nat), .int .i64 (n : Nat), .int .u64 (m : Nat)]) ?_ rfl ⟨rfl, (Below.refl _ w).alloc (Nat.le_refl _) _⟩
  simp [results, Tryz.f126, go_sem]
theorem or_low (k n : Nat) (hk : k < 256) : k ||| 256 * n = k + 256 * n := by
  have := Nat.shiftLeft_add_eq_or_of_lt (i := 8) (b := k) (by omega) n
  rw [Nat.shiftLeft_eq] at this
  rw [Nat.or_comm, show 256 * n = n * 2 ^ 8 by omega, ← this]
  omega
theorem or256 (k n : Nat) (hk : k < 256) (hn : n < 1000000) : bits BinOp.or IntKind.u64 ((k : Nat) : Int) ((256 * n : Nat) : Int) = ((k + 256 * n : Nat) : Int) := by
  rw [bits_or_u64_nat _ _ (by omega) (by omega), or_low k n hk]
set_option maxRecDepth 100000 in
theorem put_at {w : World} {ha a mb q : Nat} {D : DW} {ps : List Nat} {mem : Nat → Nat} (h : HeapAt w ha a mb D ps q mem) (p k n m : Nat) (hp : p ∈ ps) (hk : k < 256) (hn : n < 1000000) (hm : m < 18446744073709551616) :
    Calls Tryz.prog 143 #[.pointer (some ⟨ha, 0, none⟩), .int .i64 (p : Nat), .agg #[.int .i64 (k : Nat), .int .i64 (n : Nat), .int .u64 (m : Nat)]] w fun e w' => e = .returned (.tuple #[]) ∧ HeapAt w' ha a mb D ps q (upd (upd mem (64 * p) (k + 256 * n)) (64 * p + 1) m) ∧ Turn w (SlabF a mb D) w' (SlabF a mb D) := by
  have hp2 := h.sl.low p hp
  have hs := h.hs
  have hlt : ha < w.heap.size := cell_lt hs
  have hO := Lib.hid (or256 k n hk hn)
  have HP := Lib.hid h
  clear h
  go_enter Tryz.func143, Tryz.ntmps143
  go_wp2_with fail
  have HP0 := Lib.hid (HP.out.below ((Below.refl _ w).alloc (Nat.le_refl _) (Obj.cells #[Value.int IntKind.i64 (k : Nat), Value.int IntKind.i64 (n : Nat), Value.int IntKind.u64 (m : Nat)] 142)))
  have hc0 : (w.alloc (Obj.cells #[Value.int IntKind.i64 (k : Nat), Value.int IntKind.i64 (n : Nat), Value.int IntKind.u64 (m : Nat)] 142)).cell? ⟨w.heap.size, 0, none⟩ = some (.int .i64 (k : Nat)) := by go_simp
  have hc1 : (w.alloc (Obj.cells #[Value.int IntKind.i64 (k : Nat), Value.int IntKind.i64 (n : Nat), Value.int IntKind.u64 (m : Nat)] 142)).cell? ⟨w.heap.size, 1, none⟩ = some (.int .i64 (n : Nat)) := by go_simp
  have hc2 : (w.alloc (Obj.cells #[Value.int IntKind.i64 (k : Nat), Value.int IntKind.i64 (n : Nat), Value.int IntKind.u64 (m : Nat)] 142)).cell? ⟨w.heap.size, 2, none⟩ = some (.int .u64 (m : Nat)) := by go_simp
  have hT0 : Turn w (SlabF a mb D) (w.alloc (Obj.cells #[Value.int IntKind.i64 (k : Nat), Value.int IntKind.i64 (n : Nat), Value.int IntKind.u64 (m : Nat)] 142)) (SlabF a mb D) := .below ((Below.refl _ w).alloc (Nat.le_refl _) _)
  have hz0 : w.heap.size < (w.alloc (Obj.cells #[Value.int IntKind.i64 (k : Nat), Value.int IntKind.i64 (n : Nat), Value.int IntKind.u64 (m : Nat)] 142)).heap.size := by simp
  have hFn : ¬ SlabF a mb D w.heap.size := fun hf => Nat.lt_irrefl _ (HP.out.sl.lt hf)
  generalize (w.alloc (Obj.cells #[Value.int IntKind.i64 (k : Nat), Value.int IntKind.i64 (n : Nat), Value.int IntKind.u64 (m : Nat)] 142)) = W at *
  have hs0 := HP0.out.hs
  refine wp_region_quiet_tail 14 (by kernel_rfl) (by kernel_rfl) ?_
  simp only [List.take_succ_cons, List.take_zero, List.drop_succ_cons, List.drop_zero]
  repeat (go_big_quiet_step (fail))
  refine wpQuiet_nil ?_
  rintro _ ⟨nq, rfl⟩
  go_wp2_with fail
  have HP1 := Lib.hid (HP0.out.below (drewN_below W nq))
  rw [show ((p : Int) * 64) = ((64 * p : Nat) : Int) by push_cast; omega, show ((n : Int) * 256) = ((256 * n : Nat) : Int) by push_cast; omega, hO.out]
  refine (write_at HP1.out.sl (64 * p) (k + 256 * n) (by rw [show 64 * p / 64 = p by omega]; exact hp) (by omega)).mono ?_
  rintro e w1 ⟨rfl, hW1, hS1⟩
  have hT1 := (hT0.trans (.below (drewN_below W nq))).trans (wrote_turn (a := a) (mb := mb) hW1)
  have HP2 := Lib.hid (HP1.out.turn hS1 (wrote_turn hW1))
  have hc2' := (wrote_turn (a := a) (mb := mb) hW1).cell (p := ⟨w.heap.size, 2, none⟩) (v := .int .u64 (m : Nat)) hc2 hFn
  have hs1 := HP2.out.hs
  have HT1 := Lib.hid hT1
  clear hT1 hT0 hW1 hS1 hc0 hc1 hc2 hs0
  go_wp2_with fail
  refine wp_region_quiet_tail 9 (by kernel_rfl) (by kernel_rfl) ?_
  simp only [List.take_succ_cons, List.take_zero, List.drop_succ_cons, List.drop_zero]
  repeat (go_big_quiet_step (fail))
  refine wpQuiet_nil ?_
  rintro _ ⟨nq2, rfl⟩
  go_wp2_with fail
  have HP3 := Lib.hid (HP2.out.below (drewN_below w1 nq2))
  rw [show ((p : Int) * 64 + 1) = ((64 * p + 1 : Nat) : Int) by push_cast; omega]
  refine (write_at HP3.out.sl (64 * p + 1) m (by rw [show (64 * p + 1) / 64 = p by omega]; exact hp) hm).mono ?_
  rintro e w2 ⟨rfl, hW2, hS2⟩
  have HP4 := Lib.hid (HP3.out.turn hS2 (wrote_turn hW2))
  have HT2 := Lib.hid ((HT1.out.trans (.below (drewN_below w1 nq2))).trans (wrote_turn (a := a) (mb := mb) hW2))
  clear hW2 hS2
  go_wp2_with fail
  go_end0
  exact ⟨rfl, HP4.out, HT2.out⟩
end Go.Proofs.YtoifdmbffaaffaaGreatDoor
/- The walks of the package heap: none, place, clear, the heads. -/
set_option linter.unusedVariables false
set_option linter.unusedSimpArgs false
namespace Go.Proofs.YtoifdmbffaaffaaGreatDoor
open Go.RowKit Go.Shelf
set_option maxRecDepth 100000 in
theorem heapNone_at {w : World} {ha a mb q : Nat} {D : DW} {ps : List Nat} {mem : Nat → Nat} (h : HeapAt w ha a mb D ps q mem) : Calls Tryz.prog 93 #[.pointer (some ⟨ha, 0, none⟩)] w fun e w' => e = .returned (.bool false) ∧ w = w' := by
  have hs := h.hs
  clear h
  go_enter Tryz.func93, Tryz.ntmps93
  go_wp2
  go_ret
  exact ⟨rfl, rfl⟩
set_option maxRecDepth 100000 in
theorem hplace_at (p c k : Nat) (hp : p < 524288) (hc : c < 8) (hk : k < slotsN c) (w : World) :
    Calls Tryz.prog 97 #[.int .i64 (p : Nat), .int .i64 (c : Nat), .int .i64 (k : Nat)] w fun e w' => e = .returned (.int .i64 (64 * p + 2 + k * sz c : Nat)) ∧ Below w.heap.size w w' := by
  have hroom := slot_room c k hc hk
  have hP := place_any (c : Nat) (k : Nat) w (by omega) (by have := slots_small c; omega)
  rw [show placeR ((c : Nat) : Int) ((k : Nat) : Int) = .tuple #[.int .i64 (2 + k * sz c : Nat), .int .i64 0] by
    unfold placeR
    rw [if_pos ⟨by omega, by omega, by simpa using hk⟩]
    simp] at hP
  have hPH := Lib.hid hP
  clear hP
  generalize hx : 2 + k * sz c = x at *
  have hxe : 64 * p + 2 + k * sz c = 64 * p + x := by omega
  rw [hxe]
  have hx2 : x ≤ 64 := by omega
  clear hxe hx hroom
  go_enter Tryz.func97, Tryz.ntmps97
  go_wp2_with (go_at_call 128; refine hPH.out.mono ?_; rintro e w' ⟨rfl, hb⟩)
  go_ret
  exact ⟨by rw [show ((64 * p + x : Nat) : Int) = (p : Int) * 64 + (x : Nat) by push_cast; omega]; rfl, hb⟩
def zeroW (mem : Nat → Nat) (x n : Nat) : Nat → Nat := fun i => if x ≤ i ∧ i < x + n then 0 else mem i
theorem zeroW_zero (mem : Nat → Nat) (x : Nat) : zeroW mem x 0 = mem := by funext i; unfold zeroW; rw [if_neg (by omega)]
theorem zeroW_succ (mem : Nat → Nat) (x n : Nat) : upd (zeroW mem x n) (x + n) 0 = zeroW mem x (n + 1) := by
  funext i
  unfold upd zeroW
  by_cases h1 : i = x + n
  · rw [if_pos h1, if_pos (by omega)]
  · rw [if_neg h1]
    by_cases h2 : x ≤ i ∧ i < x + n
    · rw [if_pos h2, if_pos (by omega)]
    · rw [if_neg h2, if_neg (by omega)]
set_option maxRecDepth 100000 in
theorem hclear_at {w : World} {ha a mb q : Nat} {D : DW} {ps : List Nat} {mem : Nat → Nat} (h : HeapAt w ha a mb D ps q mem) (x n : Nat) (hn : n ≤ 4096) (hp : ∀ k, k < n → (x + k) / 64 ∈ ps) :
    Calls Tryz.prog 158 #[.pointer (some ⟨ha, 0, none⟩), .int .i64 (x : Nat), .int .i64 (n : Nat)] w fun e w' => e = .returned (.tuple #[]) ∧ HeapAt w' ha a mb D ps q (zeroW mem x n) ∧ Turn w (SlabF a mb D) w' (SlabF a mb D) := by
  have HP := Lib.hid h
  clear h
  go_enter Tryz.func158, Tryz.ntmps158
  go_wp2
  go_loopw [8] (fun kv wr => ∃ k : Nat, k ≤ n ∧ kv = .int .i64 k ∧ Hid (HeapAt wr ha a mb D ps q (zeroW mem x k)) ∧ Hid (Turn w (SlabF a mb D) wr (SlabF a mb D))) (fun kv _ => n - (intOf kv).toNat)
  case atStart => exact ⟨0, by omega, rfl, by rw [zeroW_zero]; exact HP, Lib.hid (.refl _ _)⟩
  case round =>
    obtain ⟨k, hk, rfl, H, T⟩ := hrel
    by_cases hkn : k < n
    · have hpk := hp k hkn
      have hxk := H.out.sl.low _ hpk
      have hs := H.out.hs
      have hpH := Lib.hid hpk
      clear hpk
      go_wp2_with (go_at_call 102; rw [show ((x : Int) + (k : Int)) = ((x + k : Nat) : Int) by push_cast; rfl, show (0 : Int) = ((0 : Nat) : Int) from rfl]; refine (write_at H.out.sl (x + k) 0 hpH.out (by omega)).mono ?_; rintro e w1 ⟨rfl, hW, hS⟩)
      rw [zeroW_succ] at hS
      have H2 := Lib.hid (H.out.turn hS (wrote_turn hW))
      have T2 := Lib.hid (T.out.trans (wrote_turn (a := a) (mb := mb) hW))
      clear hS hW
      go_roundw
      case rel => exact ⟨k + 1, by omega, by go_num, H2, T2⟩
      case measure => simp [intOf]; omega
    · obtain rfl : k = n := by omega
      go_wp2
      go_end0
      exact ⟨rfl, H.out, T.out⟩
end Go.Proofs.YtoifdmbffaaffaaGreatDoor
/- The heads of a heap, as an iterator. -/
set_option linter.unusedVariables false
set_option linter.unusedSimpArgs false
namespace Go.Proofs.YtoifdmbffaaffaaGreatDoor
open Go.RowKit Go.Shelf
attribute [local go_sem] Oper.semAt_some
/-- what a round keeps: cells and maps, but for some blocks -/
structure KB (Cs : Nat → Prop) (A B : World) : Prop where
  size : A.heap.size ≤ B.heap.size
  same : ∀ (k : Nat) (o : Obj), A.heap[k]? = some o → (o.isCells = true ∨ o.isWalk = true) → ¬ Cs k → B.heap[k]? = some o
theorem KB.refl (Cs : Nat → Prop) (A : World) : KB Cs A A := ⟨Nat.le_refl _, fun _ _ h _ _ => h⟩
theorem KB.trans {Cs : Nat → Prop} {A B C : World} (h : KB Cs A B) (k : KB Cs B C) : KB Cs A C := ⟨Nat.le_trans h.size k.size, fun i o hi ho hc => k.same i o (h.same i o hi ho hc) ho hc⟩
theorem KB.below {Cs : Nat → Prop} {A B : World} (h : Below A.heap.size A B) : KB Cs A B := ⟨h.size, fun k o hk _ _ => (h.block k (Array.getElem?_eq_some_iff.1 hk).1).trans hk⟩
theorem KB.putObj {Cs : Nat → Prop} {W : World} {l : Nat} {o : Obj} (o' : Obj) (h : W.heap[l]? = some o) (h1 : o.isCells = false) (h2 : o.isWalk = false) : KB Cs W (W.putObj l o') := by
  have hg := grownBy_putObj' W l o'
  refine ⟨hg.size, fun k u hk hu _ => ?_⟩
  have hkl : k ≠ l := by
    rintro rfl
    rw [h] at hk
    cases hk
    rcases hu with h3 | h3
    · rw [h1] at h3; cases h3
    · rw [h2] at h3; cases h3
  exact (hg.block k (Array.getElem?_eq_some_iff.1 hk).1 (by simpa using hkl)).trans hk
theorem KB.setCell {Cs : Nat → Prop} {W : World} {p : Addr} (h : Cs p.block) (v : Value) : KB Cs W (W.setCell p v) :=
  ⟨by simp, fun k o hk _ hc => (Below.heap_setCell W p v k (fun e => hc (e ▸ h))).trans hk⟩
theorem cell_obj {w : World} {p : Addr} {v : Value} (h : w.cell? p = some v) : ∃ o, w.heap[p.block]? = some o ∧ o.isCells = true := by
  unfold World.cell? at h
  cases hb : w.heap[p.block]? with
  | none => rw [hb] at h; simp at h
  | some o =>
    rw [hb] at h
    cases o <;> first | exact ⟨_, rfl, rfl⟩ | (simp at h)
theorem KB.cell {Cs : Nat → Prop} {A B : World} (h : KB Cs A B) {p : Addr} {v : Value} (hc : A.cell? p = some v) (hn : ¬ Cs p.block) : B.cell? p = some v := by
  obtain ⟨o, ho, h1⟩ := cell_obj hc
  exact (World.cell?_of_block (w := A) (w' := B) ((h.same _ o ho (.inl h1) hn).trans ho.symm)).trans hc
theorem HeapAt.kb {Cs : Nat → Prop} {w w' : World} {ha a mb q : Nat} {D : DW} {ps : List Nat} {mem : Nat → Nat} (h : HeapAt w ha a mb D ps q mem) (hk : KB Cs w w') (h1 : ∀ k, Cs k → ¬ SlabF a mb D k) (h2 : ¬ Cs ha) (h3 : ¬ Cs 1) : HeapAt w' ha a mb D ps q mem where
  hs := hk.cell h.hs h2
  sl := h.sl.same fun b hb => by
    have hn : ¬ Cs b := fun hc => h1 b hc hb
    rcases hb with rfl | rfl | ⟨p, hp⟩
    · obtain ⟨o, ho, h4⟩ := cell_obj h.sl.cq
      exact (hk.same _ o ho (.inl h4) hn).trans ho.symm
    · obtain ⟨es, clock, ho, _⟩ := h.sl.own
      exact (hk.same _ _ ho (.inr rfl) hn).trans ho.symm
    · obtain ⟨o, ho, h4⟩ := cell_obj (h.sl.words p b hp 0 (by omega)).1
      exact (hk.same _ o ho (.inl h4) hn).trans ho.symm
  off := h.off
  tab := fun j hj => hk.cell (h.tab j hj) h3
  tabF := h.tabF
theorem abides_below {β : Type} {B : Nat} {J : β → World → Prop} (hJ : AbidesFrom B J) {s : β} {W W' : World} (h : J s W) (hb : Below W.heap.size W W') : J s W' :=
  hJ s W W' none h ⟨hb.os, hb.tape, hb.output, hb.size, fun k hk _ => hb.block k hk⟩ (fun r e => by cases e)
set_option maxRecDepth 100000 in
theorem heads_calls (ha : Nat) (w : World) : Calls Tryz.prog 94 #[.pointer (some ⟨ha, 0, none⟩)] w fun e w' => e = .returned (.func (.func 125) #[] #[.pointer (some ⟨w.heap.size, 0, none⟩)]) ∧ w' = w.alloc (.cells #[.pointer (some ⟨ha, 0, none⟩)] 75) := by
  go_enter Tryz.func94, Tryz.ntmps94
  go_wp2
  go_ret
  exact ⟨rfl, rfl⟩
/-- a place in the row of pages: the heads that were told, those to come, the pages between -/
def HPos (L : HL) (pre : HL) (i next : Nat) : Prop := ∃ rest cont, L = pre ++ rest ∧ (runs L).drop i = cont ++ runs rest ∧ (∀ p ∈ cont, p < next) ∧ ∀ x ∈ rest, next ≤ x.1
theorem hpos_start (L : HL) : HPos L [] 0 0 := ⟨L, [], rfl, by simp, by simp, by simp⟩
theorem runs_cons (x : Nat × Hd) (t : HL) : runs (x :: t) = x.1 :: (List.range' (x.1 + 1) (x.2.len - 1) ++ runs t) := by
  have h := x.2.len_pos
  obtain ⟨n, hn⟩ : ∃ n, x.2.len = n + 1 := ⟨x.2.len - 1, by omega⟩
  simp [runs, hn, List.range'_succ]
/-- what stands at a place: a page between; a head; nothing -/
theorem hpos_cases {L pre : HL} {i next : Nat} (hl : Lay L) (h : HPos L pre i next) :
    (∃ p, (runs L)[i]? = some p ∧ p < next ∧ HPos L pre (i + 1) next) ∨
    (∃ x rest, L = pre ++ x :: rest ∧ (runs L)[i]? = some x.1 ∧ next ≤ x.1 ∧ ∀ next', (next' = x.1 + x.2.len ∨ (next' = next ∧ x.2.len = 1)) → HPos L (pre ++ [x]) (i + 1) next') ∨
    (L = pre ∧ (runs L).length ≤ i) := by
  obtain ⟨rest, cont, rfl, hd, hc, hr⟩ := h
  cases cont with
  | cons c cont =>
    refine .inl ⟨c, ?_, hc c List.mem_cons_self, rest, cont, rfl, ?_, fun p hp => hc p (List.mem_cons_of_mem _ hp), hr⟩
    · have := congrArg (fun l => l[0]?) hd
      simpa using this
    · have := congrArg (fun l => l.drop 1) hd
      simpa [List.drop_drop, Nat.add_comm] using this
  | nil =>
    cases rest with
    | nil =>
      refine .inr (.inr ⟨by simp, ?_⟩)
      have h2 : (runs (pre ++ [])).length - i = 0 := by rw [← List.length_drop, hd]; simp [runs]
      omega
    | cons x rest =>
      rw [List.nil_append, runs_cons] at hd
      refine .inr (.inl ⟨x, rest, rfl, ?_, hr x List.mem_cons_self, fun next' hn => ?_⟩)
      · have := congrArg (fun l => l[0]?) hd
        simpa using this
      · have hrise := hl.rise
        rw [List.pairwise_append, List.pairwise_cons] at hrise
        refine ⟨rest, List.range' (x.1 + 1) (x.2.len - 1), by simp, ?_, ?_, ?_⟩
        · have := congrArg (fun l => l.drop 1) hd
          simpa [List.drop_drop, Nat.add_comm] using this
        · intro p hp
          rw [List.mem_range'_1] at hp
          have := x.2.len_pos
          rcases hn with rfl | ⟨_, h1⟩ <;> omega
        · intro y hy
          have h1 := hrise.2.1.1 y hy
          have h2 := hr y (List.mem_cons_of_mem _ hy)
          rcases hn with rfl | ⟨rfl, _⟩ <;> omega
theorem ownsRow_cell {w : World} {base : Nat} {e : TypeId} {v : Value} {n : Nat} {xs : List Value} (h : w.ownsRow base e 1 v n xs) {i : Nat} {u : Value} (hi : xs[i]? = some u) : ∃ g c, v = .slice (some ⟨g, 0, none⟩) n c ∧ base ≤ g ∧ g < w.heap.size ∧ w.cell? ⟨g, i, none⟩ = some u := by
  have h' := h
  rcases h.2 with ⟨rfl, h0⟩ | ⟨g, cap, cur, rfl, hb, _⟩
  · have := h.1
    rw [h0] at this
    have h3 : xs = [] := List.eq_nil_of_length_eq_zero (by omega)
    rw [h3] at hi; simp at hi
  · have := h'.cells (g := g) rfl i u hi
    refine ⟨g, cap, rfl, hb, (h'.lt g rfl).2, ?_⟩
    by_cases h0 : i = 0
    · subst h0; simpa [Addr.add] using this
    · simpa [Addr.add, h0] using this
theorem ownsRow_form {w : World} {base : Nat} {e : TypeId} {v : Value} {n : Nat} {xs : List Value} (h : w.ownsRow base e 1 v n xs) : ∃ A c, v = .slice A n c := by
  rcases h.2 with ⟨rfl, rfl⟩ | ⟨g, cap, cur, rfl, _⟩
  · exact ⟨none, 0, rfl⟩
  · exact ⟨_, _, rfl⟩
/-- the row of pages, and what else a walk over the heads has between two rounds -/
structure HWalk (w : World) (ha a mb : Nat) (D : DW) (L : HL) (q : Nat) (mem : Nat → Nat) (B base : Nat) (v : Value) (W : World) : Prop where
  hp : HeapAt W ha a mb D (runs L) q mem
  box : W.cell? ⟨B, 0, none⟩ = some (.pointer (some ⟨ha, 0, none⟩))
  row : W.ownsRow base 3 1 v (runs L).length ((runs L).map fun p : Nat => Value.int .i64 (p : Int))
theorem ownsRow_kb {Cs : Nat → Prop} {w w' : World} {base : Nat} {e : TypeId} {v : Value} {n : Nat} {xs : List Value} (h : w.ownsRow base e 1 v n xs) (hk : KB Cs w w') (hc : ∀ k, Cs k → k < base) : w'.ownsRow base e 1 v n xs := by
  refine ⟨h.1, ?_⟩
  rcases h.2 with h1 | ⟨g, cap, cur, h1, h2, h3, h4⟩
  · exact .inl h1
  · exact .inr ⟨g, cap, cur, h1, h2, hk.same g _ h3 (.inl rfl) (fun hh => by have := hc g hh; omega), h4⟩
theorem HWalk.kb {Cs : Nat → Prop} {w W W' : World} {ha a mb q B base : Nat} {D : DW} {L : HL} {mem : Nat → Nat} {v : Value} (h : HWalk w ha a mb D L q mem B base v W) (hk : KB Cs W W')
    (h1 : ∀ k, Cs k → ¬ SlabF a mb D k) (h2 : ¬ Cs ha) (h3 : ¬ Cs 1) (h4 : ¬ Cs B) (h5 : ∀ k, Cs k → k < base) : HWalk w ha a mb D L q mem B base v W' :=
  ⟨h.hp.kb hk h1 h2 h3, hk.cell h.box h4, ownsRow_kb h.row hk h5⟩
theorem HWalk.below {w W W' : World} {ha a mb q B base : Nat} {D : DW} {L : HL} {mem : Nat → Nat} {v : Value} (h : HWalk w ha a mb D L q mem B base v W) (hb : Below W.heap.size W W') : HWalk w ha a mb D L q mem B base v W' :=
  h.kb (Cs := fun _ => False) (KB.below hb) (fun _ h => h.elim) (fun h => h) (fun h => h) (fun h => h) (fun _ h => h.elim)
set_option maxHeartbeats 2000000 in
set_option maxRecDepth 100000 in
theorem heads_stops {w : World} {ha a mb q B : Nat} {D : DW} {L : HL} {mem : Nat → Nat} (h : HeapAt w ha a mb D (runs L) q mem) (hl : Lay L) (hh : Heads L mem) (hB : w.cell? ⟨B, 0, none⟩ = some (.pointer (some ⟨ha, 0, none⟩)))
    (Cs : Nat → Prop) (c1 : ∀ k, Cs k → ¬ SlabF a mb D k) (c2 : ¬ Cs ha) (c3 : ¬ Cs 1) (c4 : ¬ Cs B) (c5 : ∀ k, Cs k → k < w.heap.size) :
    SeqStopsK Fence.wide 8 Tryz.prog 125 #[.pointer (some ⟨B, 0, none⟩)] (fun x : {y : Nat × Hd // y ∈ L} => #[.int .i64 (x.1.1 : Nat), hdV x.1.2]) (KB Cs) (fun xs => xs.map (·.1) = L) (fun pre => ∃ t, L = pre.map (·.1) ++ t) L.length w := fun l J Jx W hBW hJ hJx hY h0 => by
  have hHW : HeapAt W ha a mb D (runs L) q mem := h.kb (Cs := fun _ => False) (KB.below hBW) (fun _ h => h.elim) (fun h => h) (fun h => h)
  have hBox : W.cell? ⟨B, 0, none⟩ = some (.pointer (some ⟨ha, 0, none⟩)) := (hBW.cell (p := ⟨B, 0, none⟩) (cell_lt hB)).trans hB
  have hs := hHW.hs
  have hP := (callsIn_wide (n := 7)).2 (pages_row hHW.sl (runs_rise hl))
  have hPH := Lib.hid hP
  have hHH := Lib.hid hHW
  have hlH := Lib.hid hl
  have hhH := Lib.hid hh
  have hszW := hBW.size
  clear hP hHW hB h hl hh
  refine callsIn_of_wp Tryz.func125 rfl trivial ?_ rfl
  simp only [Tryz.ntmps125, List.size_toArray, List.length_cons, List.length_nil, Nat.reduceAdd, Nat.reduceSub, Array.replicate_succ, Array.replicate_zero, List.push_toArray, List.append_toArray, List.nil_append, List.cons_append]
  gi_wp2_with (refine ⟨trivial, ?_⟩; gi_at_call 82; refine hPH.out.mono ?_; rintro e w1 ⟨v, rfl, hrow, hb1⟩; obtain ⟨A, c, rfl⟩ := ownsRow_form hrow)
  have hlen : (runs L).length ≤ 4096 := by have h1 := hHH.out.sl.room; have h2 := hHH.out.sl.quota; rw [hHH.out.sl.count] at h1; omega
  have H1 : Hid (HWalk w ha a mb D L q mem B W.heap.size (.slice A (runs L).length c) w1) := Lib.hid ⟨hHH.out.below hb1, (hb1.cell (p := ⟨B, 0, none⟩) (cell_lt hBox)).trans hBox, hrow⟩
  have J1 := Lib.hid (abides_below hJ h0 hb1)
  clear hrow hb1 hBox hs h0 hPH
  gi_loopw [3, 13] (fun nv iv wr => ∃ (pre : List {y : Nat × Hd // y ∈ L}) (i next : Nat), i ≤ (runs L).length ∧ iv = .int .i64 i ∧ nv = .int .i64 next ∧ next ≤ 1000000 ∧ Hid (HPos L (pre.map (·.1)) i next) ∧ Hid (HWalk w ha a mb D L q mem B W.heap.size (.slice A (runs L).length c) wr) ∧ Hid (J pre wr)) (fun _ iv _ => (runs L).length - (intOf iv).toNat)
  case atStart => exact ⟨[], 0, 0, by omega, rfl, rfl, by omega, Lib.hid (hpos_start L), H1, J1⟩
  case round =>
    obtain ⟨pre, i, next, hi, rfl, rfl, hnx, hpos, H, hj⟩ := hrel
    rcases hpos_cases hlH.out hpos.out with ⟨p, hp, hlt, hnext⟩ | ⟨x, rest, hL, hp, hle, hnext⟩ | ⟨hL, hend⟩
    · obtain ⟨g, c', hv, _, _, hcell⟩ := ownsRow_cell H.out.row (i := i) (u := .int .i64 (p : Int)) (by rw [List.getElem?_map, hp]; rfl)
      cases hv
      have hil : i < (runs L).length := (List.getElem?_eq_some_iff.1 hp).1
      have hd : decide ((p : Int) < (next : Int)) = true := by simp; omega
      have hnH := Lib.hid hnext
      clear hp hnext hY
      gi_wp2
      go_roundw
      case rel => exact ⟨pre, i + 1, next, by omega, by go_num, by trivial, hnx, hnH, H, hj⟩
      case measure => simp [intOf]; omega
    · obtain ⟨g, c', hv, _, _, hcell⟩ := ownsRow_cell H.out.row (i := i) (u := .int .i64 (x.1 : Int)) (by rw [List.getElem?_map, hp]; rfl)
      cases hv
      have hil : i < (runs L).length := (List.getElem?_eq_some_iff.1 hp).1
      have hxm : x ∈ L := hL ▸ List.mem_append_right _ List.mem_cons_self
      have hxp : x.1 ∈ runs L := (List.getElem?_eq_some_iff.1 hp).2 ▸ List.getElem_mem _
      have hlow := H.out.hp.sl.low _ hxp
      have hok := hlH.out.ok x hxm
      have hhx := hhH.out x hxm
      have hpl : pre.length < L.length := by have h9 := congrArg List.length hL; simp only [List.length_append, List.length_map, List.length_cons] at h9; omega
      have hbx := H.out.box
      have hd : decide ((x.1 : Int) < (next : Int)) = false := by simp; omega
      have hnH := Lib.hid hnext
      have hpreH : Hid (∃ t, L = (pre ++ [(⟨x, hxm⟩ : {y : Nat × Hd // y ∈ L})]).map (fun y => y.1) ++ t) := Lib.hid ⟨rest, by rw [List.map_append, List.append_assoc]; exact hL⟩
      have hmapH : Hid ((pre ++ [(⟨x, hxm⟩ : {y : Nat × Hd // y ∈ L})]).map (fun y => y.1) = pre.map (fun y => y.1) ++ [x]) := Lib.hid (by rw [List.map_append]; rfl)
      obtain ⟨p, hdx⟩ := x
      simp only at hcell hxp hlow hd hle hhx
      have hYH := Lib.hid hY
      have hxpH := Lib.hid hxp
      have hxmH := Lib.hid hxm
      clear hp hnext hL hY hxp
      cases hdx with
      | small cc m =>
        obtain ⟨hm1, hm2⟩ := hhx
        obtain ⟨hc8, hm0, hmS⟩ := hok
        have hG := (callsIn_wide (n := 7)).2 (get_raw H.out.hp p 1 cc m hxpH.out (by omega) (by omega) hm1 hm2)
        have hGH := Lib.hid hG
        clear hG hm1 hm2
        gi_wp2_with (refine ⟨trivial, ?_⟩; gi_at_call 126; refine hGH.out.mono ?_; rintro e w2 ⟨rfl, hb2⟩)
        have hb3 : Below wr.heap.size wr (w2.alloc (Obj.cells #[Value.int IntKind.i64 1, Value.int IntKind.i64 (cc : Nat), Value.int IntKind.u64 (m : Nat)] 142)) := hb2.alloc hb2.size _
        have hj3 := abides_below hJ hj.out hb3
        have H3 := Lib.hid (H.out.below hb3)
        obtain ⟨fn, tmps, assign, body, hy, hR⟩ := hYH.out pre ⟨(p, .small cc m), hxmH.out⟩ _ hj3 hpl
        dsimp only [hdV] at hy
        have hRH := Lib.hid hR
        clear hR hj3 hb3
        rw [hy]
        gi_wp2
        refine (hRH.out).mono ?_
        rintro e W2 (⟨rfl, hJ2, hK2⟩ | ⟨rfl, hJx2⟩)
        · have H4 := Lib.hid (H3.out.kb hK2 c1 c2 c3 c4 (fun k hk => Nat.lt_of_lt_of_le (c5 k hk) hszW))
          have hJ4 := Lib.hid hJ2
          clear hJ2 hK2
          gi_wp2
          go_roundw
          case rel => exact ⟨pre ++ [⟨(p, .small cc m), hxmH.out⟩], i + 1, next, by omega, by go_num, by trivial, hnx, Lib.hid (by rw [hmapH.out]; exact hnH.out _ (.inr ⟨rfl, rfl⟩)), H4, hJ4⟩
          case measure => simp [intOf]; omega
        · have hJx4 := Lib.hid hJx2
          clear hJx2
          gi_wp2
          refine bodyPost_ret (results_none rfl _ _ _) rfl ?_
          exact ⟨⟨_, rfl⟩, .inr ⟨_, hpreH.out, hJx4.out⟩⟩
      | large ww =>
        obtain ⟨hm1, hm2⟩ := hhx
        obtain ⟨hw1, hw2⟩ := hok
        obtain ⟨nn, hnn⟩ : ∃ nn, nn = (ww + 65) / 64 := ⟨_, rfl⟩
        have hnn2 : nn ≤ 63 := by omega
        have hG := (callsIn_wide (n := 7)).2 (get_raw H.out.hp p 2 nn ww hxpH.out (by omega) (by omega) (hnn ▸ hm1) hm2)
        have hGH := Lib.hid hG
        have hnnH := Lib.hid hnn
        clear hG hm1 hm2 hnn
        gi_wp2_with (refine ⟨trivial, ?_⟩; gi_at_call 126; refine hGH.out.mono ?_; rintro e w2 ⟨rfl, hb2⟩)
        have hb3 : Below wr.heap.size wr (w2.alloc (Obj.cells #[Value.int IntKind.i64 2, Value.int IntKind.i64 (nn : Nat), Value.int IntKind.u64 (ww : Nat)] 142)) := hb2.alloc hb2.size _
        have hj3 := abides_below hJ hj.out hb3
        have H3 := Lib.hid (H.out.below hb3)
        obtain ⟨fn, tmps, assign, body, hy, hR⟩ := hYH.out pre ⟨(p, .large ww), hxmH.out⟩ _ hj3 hpl
        dsimp only [hdV] at hy
        rw [← hnnH.out] at hy
        have hRH := Lib.hid hR
        clear hR hj3 hb3
        rw [hy]
        gi_wp2
        refine (hRH.out).mono ?_
        rintro e W2 (⟨rfl, hJ2, hK2⟩ | ⟨rfl, hJx2⟩)
        · have H4 := Lib.hid (H3.out.kb hK2 c1 c2 c3 c4 (fun k hk => Nat.lt_of_lt_of_le (c5 k hk) hszW))
          have hJ4 := Lib.hid hJ2
          clear hJ2 hK2
          gi_wp2
          go_roundw
          case rel => exact ⟨pre ++ [⟨(p, .large ww), hxmH.out⟩], i + 1, p + nn, by omega, by go_num, by go_num, by omega, Lib.hid (by rw [hmapH.out]; exact hnH.out _ (.inl (by rw [hnnH.out]; rfl))), H4, hJ4⟩
          case measure => simp [intOf]; omega
        · have hJx4 := Lib.hid hJx2
          clear hJx2
          gi_wp2
          refine bodyPost_ret (results_none rfl _ _ _) rfl ?_
          exact ⟨⟨_, rfl⟩, .inr ⟨_, hpreH.out, hJx4.out⟩⟩
    · have hLH := Lib.hid hL
      clear hL
      have hil : i = (runs L).length := by omega
      subst hil
      clear hY
      gi_wp2
      go_end0
      exact ⟨⟨_, rfl⟩, .inl ⟨_, hLH.out.symm, hj.out⟩⟩
end Go.Proofs.YtoifdmbffaaffaaGreatDoor
/- The walks of the package heap: take, leave. -/
set_option linter.unusedVariables false
set_option linter.unusedSimpArgs false
namespace Go.Proofs.YtoifdmbffaaffaaGreatDoor
open Go.RowKit Go.Shelf
/-- the words behind the taking of a slot -/
def takeM (mem : Nat → Nat) (p c m k : Nat) : Nat → Nat := zeroW (upd (upd mem (64 * p) (1 + 256 * c)) (64 * p + 1) (m ||| 2 ^ k)) (64 * p + 2 + k * sz c) (sz c)
set_option maxHeartbeats 2000000 in
set_option maxRecDepth 100000 in
theorem take_at {w : World} {ha a mb q : Nat} {D : DW} {ps : List Nat} {mem : Nat → Nat} (h : HeapAt w ha a mb D ps q mem) (p c m k : Nat) (hp : p ∈ ps) (hc : c < 8) (hk : k < slotsN c) (h1 : mem (64 * p) = 1 + 256 * c) (h2 : mem (64 * p + 1) = m) :
    Calls Tryz.prog 145 #[.pointer (some ⟨ha, 0, none⟩), .int .i64 (p : Nat), .int .i64 (k : Nat)] w fun e w' => e = .returned (.int .i64 (64 * p + 2 + k * sz c : Nat)) ∧ HeapAt w' ha a mb D ps q (takeM mem p c m k) ∧ Turn w (SlabF a mb D) w' (SlabF a mb D) := by
  have hp2 := h.sl.low p hp
  have hk31 := slots_small c
  have hroom := slot_room c k hc hk
  have hm64 : m < 18446744073709551616 := h2 ▸ h.sl.word _
  have hor : m ||| 2 ^ k < 18446744073709551616 := Nat.or_lt_two_pow (n := 64) hm64 (pow_lt64 (by omega))
  have hG := Lib.hid (get_raw h p 1 c m hp (by omega) (by omega) h1 h2)
  have hS := Lib.hid (fun w => set_at m k hm64 (by omega) w)
  have hPl := Lib.hid (fun w => hplace_at p c k hp2 hc hk w)
  have hsz : sizeR ((c : Nat) : Int) = .tuple #[.int .i64 (sz c : Nat), .int .i64 0] := if_pos ⟨by omega, by omega⟩
  have hsz31 : sz c ≤ 31 := by obtain ⟨h3, _⟩ := sz_next c hc; omega
  have HP := Lib.hid h
  have hlt : ha < w.heap.size := cell_lt h.hs
  have hFn : ∀ b, w.heap.size ≤ b → ¬ SlabF a mb D b := fun b hb hf => by have := h.sl.lt hf; omega
  have hpH := Lib.hid hp
  have hkH := Lib.hid hk
  clear h h1 h2 hp hk
  unfold takeM
  obtain ⟨ad, hadH⟩ : ∃ ad, Hid (64 * p + 2 + k * sz c = ad) := ⟨_, Lib.hid rfl⟩
  rw [hadH.out] at hPl ⊢
  have hadp : ∀ j, j < sz c → (ad + j) / 64 = p := fun j hj => by have := hadH.out; omega
  have hadH2 := Lib.hid hadp
  clear hadp
  generalize sz c = s at *
  generalize hmk : m ||| 2 ^ k = mk at *
  clear hmk
  go_enter Tryz.func145, Tryz.ntmps145
  go_wp2_with (first | (go_at_call 126; refine hG.out.mono ?_; rintro e w1 ⟨rfl, hb1⟩) | (go_at_call 157; refine (hS.out _).mono ?_; rintro e w2 ⟨rfl, rfl⟩))
  have hb4 : Below w.heap.size w (w1.alloc (Obj.cells #[Value.int IntKind.i64 1, Value.int IntKind.i64 (c : Nat), Value.int IntKind.u64 (mk : Nat)] 142)) := hb1.alloc hb1.size _
  have HP4 := Lib.hid (HP.out.below hb4)
  have hc4 : (w1.alloc (Obj.cells #[Value.int IntKind.i64 1, Value.int IntKind.i64 (c : Nat), Value.int IntKind.u64 (mk : Nat)] 142)).cell? ⟨w1.heap.size, 1, none⟩ = some (.int .i64 (c : Nat)) := by go_simp
  have hz1 := hb1.size
  have T4 := Lib.hid (Turn.below (F := SlabF a mb D) hb4)
  clear hb1 hb4
  refine (put_at HP4.out p 1 c mk hpH.out (by omega) (by omega) hor).mono ?_
  rintro e w5 ⟨rfl, h5, t5⟩
  have hc5 := t5.cell hc4 (hFn _ hz1)
  have HP5 := Lib.hid h5
  have T5 := Lib.hid (T4.out.trans t5)
  have hl5 : w1.heap.size < w5.heap.size := cell_lt hc5
  clear h5 t5 hc4
  go_wp2_with fail
  refine (size_any _ _).mono ?_
  rintro e w6 ⟨rfl, hb6⟩
  rw [hsz]
  have hc6 := (hb6.cell (p := ⟨w1.heap.size, 1, none⟩) hl5).trans hc5
  have HP6 := Lib.hid (HP5.out.below hb6)
  have T6 := Lib.hid (T5.out.trans (.below hb6))
  clear hb6 hc5
  go_wp2_with fail
  refine (hPl.out _).mono ?_
  rintro e w7 ⟨rfl, hb7⟩
  have HP7 := Lib.hid (HP6.out.below hb7)
  have T7 := Lib.hid (T6.out.trans (.below hb7))
  clear hb7 hc6
  go_wp2_with fail
  refine (hclear_at HP7.out ad s (by omega) (fun j hj => by rw [hadH2.out j hj]; exact hpH.out)).mono ?_
  rintro e w8 ⟨rfl, h8, t8⟩
  have HP8 := Lib.hid h8
  have T8 := Lib.hid (T7.out.trans t8)
  clear h8 t8
  go_wp2
  go_ret
  exact ⟨rfl, HP8.out, T8.out⟩
/-- the words behind the leaving of a slot -/
def leaveM (mem : Nat → Nat) (p c m k : Nat) : Nat → Nat := upd (upd mem (64 * p) (1 + 256 * c)) (64 * p + 1) (m ^^^ 2 ^ k)
set_option maxHeartbeats 2000000 in
set_option maxRecDepth 100000 in
theorem leave_at {w : World} {ha a mb q : Nat} {D : DW} {ps : List Nat} {mem : Nat → Nat} (p c m k : Nat) (h : HeapAt w ha a mb D (p :: ps) q mem) (hc : c < 8) (hk : k < slotsN c) (hm : m.testBit k = true) (h1 : mem (64 * p) = 1 + 256 * c) (h2 : mem (64 * p + 1) = m) :
    Calls Tryz.prog 148 #[.pointer (some ⟨ha, 0, none⟩), .int .i64 (p : Nat), .int .i64 (k : Nat)] w fun e w' => e = .returned (.tuple #[]) ∧ ∃ D', HeapAt w' ha a mb D' (if m ^^^ 2 ^ k = 0 then ps else p :: ps) q (leaveM mem p c m k) ∧ Turn w (SlabF a mb D) w' (SlabF a mb D') := by
  have hp2 := h.sl.low p List.mem_cons_self
  have hk31 := slots_small c
  have hm64 : m < 18446744073709551616 := h2 ▸ h.sl.word _
  have hx : m ^^^ 2 ^ k < 18446744073709551616 := Nat.xor_lt_two_pow (n := 64) hm64 (pow_lt64 (by omega))
  have hG := Lib.hid (get_raw h p 1 c m List.mem_cons_self (by omega) (by omega) h1 h2)
  have hS := Lib.hid (fun w => clear_at m k hm64 (by omega) hm w)
  have HP := Lib.hid h
  have hlt : ha < w.heap.size := cell_lt h.hs
  have hFn : ∀ b, w.heap.size ≤ b → ¬ SlabF a mb D b := fun b hb hf => by have := h.sl.lt hf; omega
  clear h h1 h2 hm hk
  unfold leaveM
  generalize hmk : m ^^^ 2 ^ k = mk at *
  clear hmk
  by_cases h0 : mk = 0
  · rw [if_pos h0]
    have h0b : ((mk : Int) == 0) = true := by simp [h0]
    have h0H := Lib.hid h0
    clear h0
    go_enter Tryz.func148, Tryz.ntmps148
    go_wp2_with (first | (go_at_call 126; refine hG.out.mono ?_; rintro e w1 ⟨rfl, hb1⟩) | (go_at_call 159; refine (hS.out _).mono ?_; rintro e w2 ⟨rfl, rfl⟩))
    have hb4 : Below w.heap.size w (w1.alloc (Obj.cells #[Value.int IntKind.i64 1, Value.int IntKind.i64 (c : Nat), Value.int IntKind.u64 (mk : Nat)] 142)) := hb1.alloc hb1.size _
    have HP4 := Lib.hid (HP.out.below hb4)
    have hc0 : (w1.alloc (Obj.cells #[Value.int IntKind.i64 1, Value.int IntKind.i64 (c : Nat), Value.int IntKind.u64 (mk : Nat)] 142)).cell? ⟨w1.heap.size, 0, none⟩ = some (.int .i64 1) := by go_simp
    have hc1 : (w1.alloc (Obj.cells #[Value.int IntKind.i64 1, Value.int IntKind.i64 (c : Nat), Value.int IntKind.u64 (mk : Nat)] 142)).cell? ⟨w1.heap.size, 1, none⟩ = some (.int .i64 (c : Nat)) := by go_simp
    have hc2 : (w1.alloc (Obj.cells #[Value.int IntKind.i64 1, Value.int IntKind.i64 (c : Nat), Value.int IntKind.u64 (mk : Nat)] 142)).cell? ⟨w1.heap.size, 2, none⟩ = some (.int .u64 (mk : Nat)) := by go_simp
    have hz1 := hb1.size
    have T4 := Lib.hid (Turn.below (F := SlabF a mb D) hb4)
    clear hb1 hb4
    refine (put_at HP4.out p 1 c mk List.mem_cons_self (by omega) (by omega) hx).mono ?_
    rintro e w5 ⟨rfl, h5, t5⟩
    have hc50 := t5.cell hc0 (hFn _ hz1)
    have hc51 := t5.cell hc1 (hFn _ hz1)
    have hc52 := t5.cell hc2 (hFn _ hz1)
    have hs5 := h5.hs
    have HP5 := Lib.hid h5
    have T5 := Lib.hid (T4.out.trans t5)
    clear h5 t5 hc0 hc1 hc2
    go_wp2_with fail
    have hR := release_at (ps := ps) p 1 (h := HP5.out.sl) (by omega) (by omega)
    refine hR.mono ?_
    rintro e w6 ⟨D', rfl, hS6, hSh⟩
    have t6 := sh_turn (a := a) hSh
    have HP6 := Lib.hid (HP5.out.turn hS6 t6)
    have T6 := Lib.hid (T5.out.trans t6)
    clear hS6 hSh t6 hR
    go_wp2
    go_end0
    exact ⟨rfl, _, HP6.out, T6.out⟩
  · rw [if_neg h0]
    have h0b : ((mk : Int) == 0) = false := by simp; omega
    have h0H := Lib.hid h0
    clear h0
    go_enter Tryz.func148, Tryz.ntmps148
    go_wp2_with (first | (go_at_call 126; refine hG.out.mono ?_; rintro e w1 ⟨rfl, hb1⟩) | (go_at_call 159; refine (hS.out _).mono ?_; rintro e w2 ⟨rfl, rfl⟩))
    have hb4 : Below w.heap.size w (w1.alloc (Obj.cells #[Value.int IntKind.i64 1, Value.int IntKind.i64 (c : Nat), Value.int IntKind.u64 (mk : Nat)] 142)) := hb1.alloc hb1.size _
    have HP4 := Lib.hid (HP.out.below hb4)
    have hc0 : (w1.alloc (Obj.cells #[Value.int IntKind.i64 1, Value.int IntKind.i64 (c : Nat), Value.int IntKind.u64 (mk : Nat)] 142)).cell? ⟨w1.heap.size, 0, none⟩ = some (.int .i64 1) := by go_simp
    have hc1 : (w1.alloc (Obj.cells #[Value.int IntKind.i64 1, Value.int IntKind.i64 (c : Nat), Value.int IntKind.u64 (mk : Nat)] 142)).cell? ⟨w1.heap.size, 1, none⟩ = some (.int .i64 (c : Nat)) := by go_simp
    have hc2 : (w1.alloc (Obj.cells #[Value.int IntKind.i64 1, Value.int IntKind.i64 (c : Nat), Value.int IntKind.u64 (mk : Nat)] 142)).cell? ⟨w1.heap.size, 2, none⟩ = some (.int .u64 (mk : Nat)) := by go_simp
    have hz1 := hb1.size
    have T4 := Lib.hid (Turn.below (F := SlabF a mb D) hb4)
    clear hb1 hb4
    refine (put_at HP4.out p 1 c mk List.mem_cons_self (by omega) (by omega) hx).mono ?_
    rintro e w5 ⟨rfl, h5, t5⟩
    have hc50 := t5.cell hc0 (hFn _ hz1)
    have hc51 := t5.cell hc1 (hFn _ hz1)
    have hc52 := t5.cell hc2 (hFn _ hz1)
    have hs5 := h5.hs
    have HP5 := Lib.hid h5
    have T5 := Lib.hid (T4.out.trans t5)
    clear h5 t5 hc0 hc1 hc2
    go_wp2_with fail
    go_end0
    exact ⟨rfl, _, HP5.out, T5.out⟩
end Go.Proofs.YtoifdmbffaaffaaGreatDoor
/- The walk of heap.spot: the least free slot of a class. -/
set_option linter.unusedVariables false
set_option linter.unusedSimpArgs false
namespace Go.Proofs.YtoifdmbffaaffaaGreatDoor
open Go.RowKit Go.Shelf
attribute [local go_sem] Oper.semAt_some
def hdK : Hd → Nat
  | .small _ _ => 1
  | .large _ => 2
def hdN : Hd → Nat
  | .small c _ => c
  | .large w => (w + 65) / 64
def hdW : Hd → Nat
  | .small _ m => m
  | .large w => w
theorem hdV_eq (h : Hd) : hdV h = .agg #[.int .i64 (hdK h : Nat), .int .i64 (hdN h : Nat), .int .u64 (hdW h : Nat)] := by cases h <;> rfl
/-- a head in a box of its own -/
structure HdBox (W : World) (B : Nat) (h : Hd) : Prop where
  k : W.cell? ⟨B, 0, none⟩ = some (.int .i64 (hdK h : Nat))
  n : W.cell? ⟨B, 1, none⟩ = some (.int .i64 (hdN h : Nat))
  w : W.cell? ⟨B, 2, none⟩ = some (.int .u64 (hdW h : Nat))
theorem HdBox.kept {W W' : World} {B : Nat} {h : Hd} {row : Option Nat} (hb : HdBox W B h) (hg : W.grownBy W' row) (hr : ∀ r, row = some r → ∃ o : Obj, W.heap[r]? = some o ∧ o.isCells = false) : HdBox W' B h :=
  ⟨cell_kept hb.k hg hr, cell_kept hb.n hg hr, cell_kept hb.w hg hr⟩
theorem hdBox_new (W : World) (h : Hd) (t : TypeId) : HdBox (W.alloc (.cells #[.int .i64 (hdK h : Nat), .int .i64 (hdN h : Nat), .int .u64 (hdW h : Nat)] t)) W.heap.size h := by
  refine ⟨?_, ?_, ?_⟩ <;> go_simp
def NoSpot (c : Nat) (x : Nat × Hd) : Prop := ∀ m, x.2 = .small c m → ∀ k, k < slotsN c → m.testBit k = true
def SpotR (L : HL) (c : Nat) (v : Value) : Prop :=
  (v = .tuple #[.int .i64 0, .int .i64 0, .bool false]) ∨
  ∃ L1 L2 p m k, L = L1 ++ (p, .small c m) :: L2 ∧ k < slotsN c ∧ m.testBit k = false ∧ v = .tuple #[.int .i64 (p : Nat), .int .i64 (k : Nat), .bool true]
/-- three result cells -/
def Out3 (B : Nat) (u v x : Value) (W : World) : Prop := W.cell? ⟨B + 1, 0, none⟩ = some u ∧ W.cell? ⟨B + 1 + 1, 0, none⟩ = some v ∧ W.cell? ⟨B + 1 + 1 + 1, 0, none⟩ = some x ∧ W.frozen? ⟨B + 1, 0, none⟩ = false ∧ W.frozen? ⟨B + 1 + 1, 0, none⟩ = false ∧ W.frozen? ⟨B + 1 + 1 + 1, 0, none⟩ = false
theorem Out3.kept {B : Nat} {u v x : Value} {W W' : World} {row : Option Nat} (h : Out3 B u v x W) (hg : W.grownBy W' row) (hr : ∀ r, row = some r → ∃ o : Obj, W.heap[r]? = some o ∧ o.isCells = false) : Out3 B u v x W' := by
  obtain ⟨h1, h2, h3, f1, f2, f3⟩ := h
  exact ⟨cell_kept h1 hg hr, cell_kept h2 hg hr, cell_kept h3 hg hr, (frozen_kept h1 hg hr).trans f1, (frozen_kept h2 hg hr).trans f2, (frozen_kept h3 hg hr).trans f3⟩
theorem Out3.below {B : Nat} {u v x : Value} {W W' : World} (h : Out3 B u v x W) (hb : Below W.heap.size W W') : Out3 B u v x W' := by
  obtain ⟨h1, h2, h3, f1, f2, f3⟩ := h
  exact ⟨(hb.cell (p := ⟨B + 1, 0, none⟩) (cell_lt h1)).trans h1, (hb.cell (p := ⟨B + 1 + 1, 0, none⟩) (cell_lt h2)).trans h2, (hb.cell (p := ⟨B + 1 + 1 + 1, 0, none⟩) (cell_lt h3)).trans h3, (hb.frozen (p := ⟨B + 1, 0, none⟩) (cell_lt h1)).trans f1, (hb.frozen (p := ⟨B + 1 + 1, 0, none⟩) (cell_lt h2)).trans f2, (hb.frozen (p := ⟨B + 1 + 1 + 1, 0, none⟩) (cell_lt h3)).trans f3⟩
theorem Out3.set {B : Nat} {u v x : Value} {W : World} (h : Out3 B u v x W) (u' v' x' : Value) : Out3 B u' v' x' (((W.setCell ⟨B + 1, 0, none⟩ u').setCell ⟨B + 1 + 1, 0, none⟩ v').setCell ⟨B + 1 + 1 + 1, 0, none⟩ x') := by
  obtain ⟨h1, h2, h3, f1, f2, f3⟩ := h
  refine ⟨?_, ?_, ?_, ?_, ?_, ?_⟩
  · exact (World.cell?_setCell_other _ _ _ _ (by simp)).trans ((World.cell?_setCell_other _ _ _ _ (by simp)).trans (World.cell?_setCell_same' _ _ _ (by rw [h1]; rfl)))
  · exact (World.cell?_setCell_other _ _ _ _ (by simp)).trans (World.cell?_setCell_same' _ _ _ (by rw [World.cell?_setCell_other _ _ _ _ (by simp), h2]; rfl))
  · exact World.cell?_setCell_same' _ _ _ (by rw [World.cell?_setCell_other _ _ _ _ (by simp), World.cell?_setCell_other _ _ _ _ (by simp), h3]; rfl)
  · simp [f1]
  · simp [f2]
  · simp [f3]
theorem keepsOthers_below {W W' : World} (h : Below W.heap.size W W') : KeepsOthers W W' := ⟨h.size, fun k o hk _ => (h.block k (Array.getElem?_eq_some_iff.1 hk).1).trans hk⟩
theorem HeapAt.kbF {w w' : World} {ha a mb q : Nat} {D : DW} {ps : List Nat} {mem : Nat → Nat} (h : HeapAt w ha a mb D ps q mem) {B : Nat} (hb : Below B w w') (hB : w.heap.size ≤ B) : HeapAt w' ha a mb D ps q mem :=
  h.below (hb.mono hB)
set_option maxHeartbeats 4000000 in
set_option maxRecDepth 100000 in
theorem spot_at {w : World} {ha a mb q : Nat} {D : DW} {L : HL} {mem : Nat → Nat} (h : HeapAt w ha a mb D (runs L) q mem) (hl : Lay L) (hh : Heads L mem) (c : Nat) (hc : c < 8) :
    Calls Tryz.prog 144 #[.pointer (some ⟨ha, 0, none⟩), .int .i64 (c : Nat)] w fun e w' => ∃ v, e = .returned v ∧ SpotR L c v ∧ Below w.heap.size w w' := by
  refine (callsIn_wide (n := 9)).1 ?_
  have hsl : slotsR ((c : Nat) : Int) = .tuple #[.int .i64 (slotsN c : Nat), .int .i64 0] := if_pos ⟨by omega, by omega⟩
  have hS := Lib.hid (fun w => (callsIn_wide (n := 8)).2 (slots_any (c : Nat) w))
  have hHd := Lib.hid (fun w => (callsIn_wide (n := 8)).2 (heads_calls ha w))
  have HH := Lib.hid h
  have Hl := Lib.hid hl
  have Hh := Lib.hid hh
  clear h hl hh
  refine callsIn_of_wp_marks Tryz.func144 rfl trivial ?_ rfl
  simp only [Tryz.ntmps144, List.size_toArray, List.length_cons, List.length_nil, Nat.reduceAdd, Nat.reduceSub, Array.replicate_succ, Array.replicate_zero, List.push_toArray, List.append_toArray, List.nil_append, List.cons_append]
  gi_wp2_with (refine ⟨trivial, ?_⟩; fail)
  have ho0 : Out3 w.heap.size (.int .i64 0) (.int .i64 0) (.bool false) ((((w.alloc (Obj.cells #[Value.int IntKind.i64 (c : Nat)] 3)).alloc (Obj.cells #[Value.int IntKind.i64 0] 3)).alloc (Obj.cells #[Value.int IntKind.i64 0] 3)).alloc (Obj.cells #[Value.bool false] 4)) := by
    refine ⟨?_, ?_, ?_, ?_, ?_, ?_⟩ <;> go_simp
  have hn0 : ((((w.alloc (Obj.cells #[Value.int IntKind.i64 (c : Nat)] 3)).alloc (Obj.cells #[Value.int IntKind.i64 0] 3)).alloc (Obj.cells #[Value.int IntKind.i64 0] 3)).alloc (Obj.cells #[Value.bool false] 4)).cell? ⟨w.heap.size, 0, none⟩ = some (.int .i64 (c : Nat)) := by go_simp
  have hb0 : Below w.heap.size w ((((w.alloc (Obj.cells #[Value.int IntKind.i64 (c : Nat)] 3)).alloc (Obj.cells #[Value.int IntKind.i64 0] 3)).alloc (Obj.cells #[Value.int IntKind.i64 0] 3)).alloc (Obj.cells #[Value.bool false] 4)) := ((((Below.refl _ w).alloc (Nat.le_refl _) _).alloc (by simp) _).alloc (by simp; omega) _).alloc (by simp; omega) _
  have hz0 : ((((w.alloc (Obj.cells #[Value.int IntKind.i64 (c : Nat)] 3)).alloc (Obj.cells #[Value.int IntKind.i64 0] 3)).alloc (Obj.cells #[Value.int IntKind.i64 0] 3)).alloc (Obj.cells #[Value.bool false] 4)).heap.size = w.heap.size + 4 := by simp
  generalize ((((w.alloc (Obj.cells #[Value.int IntKind.i64 (c : Nat)] 3)).alloc (Obj.cells #[Value.int IntKind.i64 0] 3)).alloc (Obj.cells #[Value.int IntKind.i64 0] 3)).alloc (Obj.cells #[Value.bool false] 4)) = W0 at *
  refine ⟨trivial, ?_⟩
  refine (hS.out _).mono ?_
  rintro e w1 ⟨rfl, hb1⟩
  rw [hsl]
  have hn1 := (hb1.cell (p := ⟨w.heap.size, 0, none⟩) (cell_lt hn0)).trans hn0
  have ho1 := ho0.below hb1
  have hz1 := hb1.size
  have hbw := hb0.trans (hb1.mono hb0.size)
  clear hb1 hb0 ho0 hn0
  gi_wp2_with (refine ⟨trivial, ?_⟩; fail)
  refine ⟨trivial, ?_⟩
  refine (hHd.out _).mono ?_
  rintro e w2 ⟨rfl, rfl⟩
  gi_wp2_with (refine ⟨trivial, ?_⟩; fail)
  obtain ⟨W2, hW2⟩ : ∃ W2, W2 = (w1.alloc (Obj.cells #[Value.int IntKind.i64 (slotsN c : Nat)] 3)).alloc (Obj.cells #[Value.pointer (some { block := ha, off := 0 })] 75) := ⟨_, rfl⟩
  have hb2 : Below w1.heap.size w1 W2 := hW2 ▸ ((Below.refl _ w1).alloc (Nat.le_refl _) _).alloc (by simp) _
  have hn2 := (hb2.cell (p := ⟨w.heap.size, 0, none⟩) (cell_lt hn1)).trans hn1
  have ho2 := ho1.below hb2
  have hs2 : W2.cell? ⟨w1.heap.size, 0, none⟩ = some (.int .i64 (slotsN c : Nat)) := by rw [hW2]; go_simp
  have hx2 : W2.cell? ⟨w1.heap.size + 1, 0, none⟩ = some (.pointer (some ⟨ha, 0, none⟩)) := by rw [hW2]; go_simp
  have hz2 : W2.heap.size = w1.heap.size + 2 := by rw [hW2]; simp
  have hb2w := hbw.trans (hb2.mono (by omega))
  rw [← hW2]
  clear hW2 hb2 hn1 ho1 hbw
  have HH2 := Lib.hid (HH.out.below hb2w)
  refine wpIn_rangeFunc_ownH rfl (by omega) (gf := 125) (lb := #[.pointer (some ⟨w1.heap.size + 1, 0, none⟩)]) rfl trivial (enters_of Tryz.func125 (by kernel_rfl) rfl)
    (heads_stops HH2.out Hl.out Hh.out hx2 (fun _ => False) (fun _ h => h.elim) (fun h => h) (fun h => h) (fun h => h) (fun _ h => h.elim))
    (fun h k => h.trans k) (fun W l o o' _ hl h1 h2 => KB.putObj o' hl h1 h2) (Below.refl _ _) (fun _ => rfl)
    (fun pre W => Below W2.heap.size W2 W)
    (fun cd pre W => cd = .ret ∧ (∃ p0 p m k, pre.map (fun y => y.1) = p0 ++ [(p, Hd.small c m)] ∧ k < slotsN c ∧ m.testBit k = false ∧ Out3 w.heap.size (.int .i64 (p : Nat)) (.int .i64 (k : Nat)) (.bool true) W) ∧ Below w.heap.size w W)
    (fun s A B row hs hg hr => ownFrom_below (Nat.le_refl _) (by omega) s A B row hs hg hr)
    (fun cd s A B row hs hg hr => by
      obtain ⟨h1, ⟨p0, p, m, k, h2, h3, h4, h5⟩, h6⟩ := hs
      exact ⟨h1, ⟨p0, p, m, k, h2, h3, h4, h5.kept hg (fun r e => (hr r e).2)⟩, ownFrom_below (Nat.le_refl _) (by omega) s A B row h6 hg hr⟩)
    (Below.refl _ _)
    (fun x a' W => ∃ B, W2.heap.size ≤ B ∧ HdBox W B x.1.2 ∧ a' = { tmps := #[Value.pointer (some { block := ha, off := 0 }), Value.int IntKind.i64 (c : Nat), undef, Value.pointer (some { block := w.heap.size, off := 0 }), Value.pointer (some { block := w.heap.size + 1, off := 0 }), Value.pointer (some { block := w.heap.size + 1 + 1, off := 0 }), Value.pointer (some { block := w.heap.size + 1 + 1 + 1, off := 0 }), Value.pointer (some { block := w1.heap.size, off := 0 }), Value.int IntKind.i64 0, Value.int IntKind.i64 (x.1.1 : Nat), Value.pointer (some { block := B, off := 0 }), undef, Value.tuple #[Value.int IntKind.i64 (slotsN c : Nat), Value.int IntKind.i64 0], Value.int IntKind.i64 (c : Nat), Value.tuple #[Value.int IntKind.i64 (slotsN c : Nat), Value.int IntKind.i64 0], Value.int IntKind.i64 (slotsN c : Nat), Value.int IntKind.i64 0, Value.pointer (some { block := ha, off := 0 }), Value.func (Fn.func 125) #[] #[Value.pointer (some { block := w1.heap.size + 1, off := 0 })], Value.int IntKind.i64 (x.1.1 : Nat), hdV x.1.2, undef, undef, undef, undef, undef, undef, undef, undef, undef, undef, undef, undef, undef, undef, undef, undef, undef], defers := [] })
    (fun x a' s A B row hs hg hr => by
      obtain ⟨B', h1, h2, h3⟩ := hs
      exact ⟨B', h1, h2.kept hg (fun r e => (hr r e).2), h3⟩)
    ?assign ?body ?done ?stop
  case assign =>
    rintro l pre ⟨⟨p, hd⟩, hxm⟩ W K hi hK
    dsimp only at hK ⊢
    have hb : Below W.heap.size W (W.alloc (Obj.cells #[Value.int IntKind.i64 (hdK hd : Nat), Value.int IntKind.i64 (hdN hd : Nat), Value.int IntKind.u64 (hdW hd : Nat)] 142)) := (Below.refl _ W).alloc (Nat.le_refl _) _
    have hK2 := hK _ (W.alloc (Obj.cells #[Value.int IntKind.i64 (hdK hd : Nat), Value.int IntKind.i64 (hdN hd : Nat), Value.int IntKind.u64 (hdW hd : Nat)] 142)) ((keepsOthers_below hb).from _) (KB.below hb) (hi.trans (hb.mono hi.size)) ⟨W.heap.size, hi.size, hdBox_new _ _ _, rfl⟩
    have hK2H := Lib.hid hK2
    clear hK hK2 hb hi
    rw [hdV_eq] at hK2H ⊢
    gi_wp2
    exact hK2H.out
  case body =>
    rintro l pre ⟨⟨p, hd⟩, hxm⟩ a' W hl ⟨r, hr⟩ hi ⟨B, hBz, hbx, rfl⟩ hlen
    dsimp only at hbx ⊢
    have hn3 := (hi.cell (p := ⟨w.heap.size, 0, none⟩) (cell_lt hn2)).trans hn2
    have ho3 := ho2.below hi
    have hs3 := (hi.cell (p := ⟨w1.heap.size, 0, none⟩) (cell_lt hs2)).trans hs2
    have hok := Hl.out.ok _ hxm
    have hk := hbx.k
    have hn := hbx.n
    have hw := hbx.w
    have hbw := hb2w.trans (hi.mono hb2w.size)
    have hii := Lib.hid hi
    have hTw := (HH.out.below hbw).tab
    have hTlt : 1 < W.heap.size := by have := HH.out.tabF a (.inl rfl); have h2 := HH.out.sl.lt (.inl rfl); have := hbw.size; omega
    have hbwH := Lib.hid hbw
    have hTH := Lib.hid hTw
    clear hbx hi hbw hTw
    cases hd with
    | large ww =>
      simp only [hdK, hdN, hdW] at hk hn hw
      have d1 : ((2 : Int) != 1) = true := by decide
      clear hok
      gi_wp2
      exact ⟨KeepsFrom.refl _ _, KB.refl _ _, hii.out⟩
    | small cc m =>
      simp only [hdK, hdN, hdW] at hk hn hw
      obtain ⟨hc8, hm0, hmS⟩ := hok
      have hm64 : m < 18446744073709551616 := Nat.lt_trans hmS (pow_lt64 (by have := slots_small cc; omega))
      have d1 : ((1 : Int) != 1) = false := by decide
      by_cases hcc : cc = c
      · subst hcc
        have d2 : (((cc : Nat) : Int) != (cc : Nat)) = false := by simp
        have hF := Lib.hid (CallsIn.inRound l ((callsIn_wide (n := 6)).2 (free_at m (slotsN cc) hm64 (by have := slots_small cc; omega) W hTH.out hTlt)))
        clear hm0 hmS hm64
        gi_wp2_with (refine ⟨trivial, ?_⟩; fail)
        refine ⟨trivial, ?_⟩
        refine hF.out.mono ?_
        rintro e W' ⟨r', rfl, hr', hW'⟩
        have hbW : Below W.heap.size W W' := hW' ▸ (Below.refl _ W).alloc (Nat.le_refl _) _
        clear hW'
        have ho4 := ho3.below hbW
        have hi4 := Lib.hid (hii.out.trans (hbW.mono hii.out.size))
        have hb4 := Lib.hid (hbwH.out.trans (hbW.mono hbwH.out.size))
        have hk4 := Lib.hid ((keepsOthers_below hbW).from W2.heap.size)
        have hkb4 := Lib.hid (KB.below (Cs := fun _ => False) hbW)
        have hsz4 : w.heap.size + 4 ≤ W'.heap.size := by have := hb4.out.size; have := hi4.out.size; omega
        clear hbW ho3 hn3 hs3 hk hn hw hF
        rcases hr' with ⟨rfl, _⟩ | ⟨k, hkn, rfl, hkm⟩
        · have d3 : decide ((0 : Int) ≤ -1) = false := by decide
          gi_wp2
          exact ⟨hk4.out, hkb4.out, hi4.out⟩
        · have d3 : decide ((0 : Int) ≤ (k : Int)) = true := by simp
          have hkmH := Lib.hid hkm
          have hknH := Lib.hid hkn
          clear hkm hkn
          obtain ⟨q1, q2, q3, q4, q5, q6⟩ := ho4
          have hset := Lib.hid (Out3.set ⟨q1, q2, q3, q4, q5, q6⟩ (.int .i64 (p : Nat)) (.int .i64 (k : Nat)) (.bool true))
          gi_wp2
          refine ⟨?_, rfl, ⟨pre.map (fun y => y.1), p, m, k, by rw [List.map_append]; rfl, hknH.out, hkmH.out, hset.out⟩, ?_⟩
          · exact hk4.out.trans ((((KeepsOthers.setCell _ _ _).trans (KeepsOthers.setCell _ _ _)).trans (KeepsOthers.setCell _ _ _)).from _)
          · exact ((hb4.out.setCell (p := ⟨w.heap.size + 1, 0, none⟩) (by simp) _).setCell (p := ⟨w.heap.size + 1 + 1, 0, none⟩) (by simp; omega) _).setCell (p := ⟨w.heap.size + 1 + 1 + 1, 0, none⟩) (by simp; omega) _
      · have d2 : (((cc : Nat) : Int) != (c : Nat)) = true := by simp; omega
        clear hm0 hmS hcc
        gi_wp2
        exact ⟨KeepsFrom.refl _ _, KB.refl _ _, hii.out⟩
  case done =>
    rintro D' xs W hD hxs hi hK
    have ho3 := ho2.below hi
    have hbw := Lib.hid (hb2w.trans (hi.mono hb2w.size))
    obtain ⟨q1, q2, q3, q4, q5, q6⟩ := ho3
    have hset := Out3.set ⟨q1, q2, q3, q4, q5, q6⟩ (.int .i64 0) (.int .i64 0) (.bool false)
    have hK1 := (KeepsOthers.setCell W ⟨w.heap.size + 1, 0, none⟩ (.int .i64 0)).same D' _ hK rfl
    have hK2 := (KeepsOthers.setCell (W.setCell ⟨w.heap.size + 1, 0, none⟩ (.int .i64 0)) ⟨w.heap.size + 1 + 1, 0, none⟩ (.int .i64 0)).same D' _ hK1 rfl
    have hK3 := (KeepsOthers.setCell ((W.setCell ⟨w.heap.size + 1, 0, none⟩ (.int .i64 0)).setCell ⟨w.heap.size + 1 + 1, 0, none⟩ (.int .i64 0)) ⟨w.heap.size + 1 + 1 + 1, 0, none⟩ (.bool false)).same D' _ hK2 rfl
    have hset2 := hset.kept (grownBy_putObj' _ D' (.deferred none)) (fun r e => by cases e; exact ⟨_, hK3, rfl⟩)
    obtain ⟨u1, u2, u3, _⟩ := hset2
    clear hxs hi hset hK1 hK2
    gi_wp2
    refine ⟨by simp, .inl ⟨_, _, rfl, run_takeDeferred hK3, ?_⟩⟩
    refine ⟨.tuple #[.int .i64 0, .int .i64 0, .bool false], ?_, ?_⟩
    · simp [results, Tryz.f144, go_sem, u1, u2, u3]
    · exact ⟨_, rfl, .inl rfl, (((hbw.out.setCell (p := ⟨w.heap.size + 1, 0, none⟩) (by simp) _).setCell (p := ⟨w.heap.size + 1 + 1, 0, none⟩) (by simp; omega) _).setCell (p := ⟨w.heap.size + 1 + 1 + 1, 0, none⟩) (by simp; omega) _).trans (belowK_b (w := w) (Nat.le_refl _) _ D' _ _ (by omega) hK3 rfl rfl)⟩
  case stop =>
    rintro D' cd pre W hD ⟨t, ht⟩ ⟨rfl, ⟨p0, p, m, k, hpre, hk, hm, ho⟩, hb⟩ hK
    have hbH := Lib.hid hb
    have hset2 := ho.kept (grownBy_putObj' _ D' (.deferred none)) (fun r e => by cases e; exact ⟨_, hK, rfl⟩)
    obtain ⟨u1, u2, u3, _⟩ := hset2
    have hfin : Hid (SpotR L c (.tuple #[.int .i64 (p : Nat), .int .i64 (k : Nat), .bool true])) := Lib.hid (.inr ⟨p0, t, p, m, k, by rw [ht, hpre, List.append_assoc]; rfl, hk, hm, rfl⟩)
    clear hb ho ht hpre hk hm
    gi_wp2
    refine ⟨by simp, .inl ⟨_, _, rfl, run_takeDeferred hK, ?_⟩⟩
    refine ⟨.tuple #[.int .i64 (p : Nat), .int .i64 (k : Nat), .bool true], ?_, ?_⟩
    · simp [results, Tryz.f144, go_sem, u1, u2, u3]
    · exact ⟨_, rfl, hfin.out, hbH.out.trans (belowK_b (w := w) (Nat.le_refl _) _ D' _ _ (by omega) hK rfl rfl)⟩
end Go.Proofs.YtoifdmbffaaffaaGreatDoor

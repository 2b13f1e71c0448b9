/-
  The seat's own texts, part f: Node2, Walk1, Walk2, Walk3, Walk4, Walk5, In1, In2, List, Seen.
-/
import Derived.Test.YtjpmlneihbckpaaGreatDoorMe
import Derived.Maps.OwnIn
import Derived.Deep.DeepMust
/- Nodes: fields, Put, Make, Drop. -/
set_option linter.unusedVariables false
set_option linter.unusedSimpArgs false
namespace Go.Proofs.YtjpmlneihbckpaaGreatDoor
open Go.RowKit Go.Shelf
theorem fields_index (nd : Nd) (k : Nat) (hk : k < 6) (W : World) : (Instr.index 117 nd.v (.int .i64 (k : Nat))).run Tryz.prog W = .ok (.int .u64 (nd.ws[k]?.getD 0 : Nat)) W := by
  unfold Nd.v Nd.ws
  match k, hk with
  | 0, _ => simp [Instr.index, run_underlying Tryz.underlying117, asIntOf, go_sem]
  | 1, _ => simp [Instr.index, run_underlying Tryz.underlying117, asIntOf, go_sem]
  | 2, _ => simp [Instr.index, run_underlying Tryz.underlying117, asIntOf, go_sem]
  | 3, _ => simp [Instr.index, run_underlying Tryz.underlying117, asIntOf, go_sem]
  | 4, _ => simp [Instr.index, run_underlying Tryz.underlying117, asIntOf, go_sem]
  | 5, _ => simp [Instr.index, run_underlying Tryz.underlying117, asIntOf, go_sem]
  | k + 6, h => omega
set_option maxHeartbeats 2000000 in
set_option maxRecDepth 100000 in
theorem fields_at (nd : Nd) (w : World) : Calls Tryz.prog 68 #[nd.v] w fun e w' => e = .returned nd.v ∧ Below w.heap.size w w' := by
  unfold Nd.v
  go_enter Tryz.func68, Tryz.ntmps68
  go_wp2
  refine bodyPost_ret (v := nd.v) ?_ rfl ⟨rfl, ((Below.refl _ w).alloc (Nat.le_refl _) _).alloc (by simp) _⟩
  simp [results, Tryz.f68, go_sem, Nd.v]
theorem updR_id {R : Nat → Option (List Nat)} {x : Nat} {o : Option (List Nat)} (h : R x = o) : updR R x o = R := by
  funext y
  unfold updR
  by_cases e : y = x
  · rw [if_pos e, e, h]
  · rw [if_neg e]
/-- what the words of a node are when some are put -/
def mix (a b : List Nat) (k : Nat) : List Nat := a.take k ++ b.drop k
theorem mix_zero (a b : List Nat) : mix a b 0 = b := by simp [mix]
theorem mix_all {a b : List Nat} (h : a.length = b.length) : mix a b a.length = a := by
  unfold mix
  rw [List.take_length, List.drop_eq_nil_of_le (by omega), List.append_nil]
theorem mix_at {a b : List Nat} (h : a.length = b.length) (k i : Nat) (hk : k ≤ a.length) : (mix a b k)[i]? = if i < k then a[i]? else b[i]? := by
  unfold mix
  rw [List.getElem?_append, List.length_take, Nat.min_eq_left hk]
  by_cases hi : i < k
  · rw [if_pos hi, if_pos hi, List.getElem?_take, if_pos hi]
  · rw [if_neg hi, if_neg hi, List.getElem?_drop]
    congr 1; omega
theorem mix_len {a b : List Nat} (h : a.length = b.length) (k : Nat) (hk : k ≤ a.length) : (mix a b k).length = a.length := by
  simp [mix]; omega
theorem mix_set {a b : List Nat} (h : a.length = b.length) (k : Nat) (hk : k < a.length) : (mix a b k).set k (a[k]?.getD 0) = mix a b (k + 1) := by
  refine List.ext_getElem? fun i => ?_
  rw [List.getElem?_set, mix_at h k i (by omega), mix_at h (k + 1) i (by omega), mix_len h k (by omega)]
  by_cases e : k = i
  · subst e
    rw [if_pos rfl, if_pos hk, if_pos (by omega), List.getElem?_eq_getElem hk]; rfl
  · rw [if_neg e]
    by_cases hi : i < k
    · rw [if_pos hi, if_pos (by omega)]
    · rw [if_neg hi, if_neg (show ¬ i < k + 1 by omega)]
theorem Nd.Ok.ws {nd : Nd} (h : nd.Ok) (k : Nat) : nd.ws[k]?.getD 0 < 18446744073709551616 := by
  match k with
  | 0 => exact h.key
  | 1 => exact h.val
  | 2 => exact h.left
  | 3 => exact h.right
  | 4 => exact h.mark
  | 5 => exact h.size
  | k + 6 => simp [Nd.ws]
section
variable {w w' : World} {s : Nat} {F : Nat → Prop} {R : Nat → Option (List Nat)} {H : List Nat} {P q most last G : Nat}
set_option maxHeartbeats 2000000 in
set_option maxRecDepth 100000 in
theorem nput_at (h : StoreIs w s F R H P q most last G) {x : Nat} {ws : List Nat} (hR : R x = some ws) (h6 : ws.length = 6) (nd : Nd) (hok : nd.Ok) :
    Calls Tryz.prog 32 #[.pointer (some ⟨s, 0, none⟩), .int .u64 (x : Nat), nd.v] w fun e w' => e = .returned (.int .i64 0) ∧ StoreIs w' s F (updR R x (some nd.ws)) H P q most last G ∧ Turn w F w' F := by
  obtain ⟨n, hrd, _⟩ := h.rd
  have hx := (hrd.u64 hR).1
  have hA := Lib.hid (fun w' (hb : Below w.heap.size w w') => asked_at (hrd.below hb) x hx)
  have hz : nodeE R x = 0 := nodeE_zero.2 ⟨_, by unfold nodeR; rw [hR]; exact if_pos h6⟩
  rw [hz] at hA
  have hFl := Lib.hid (fun w' => fields_at nd w')
  have hl : nd.ws.length = ws.length := by rw [h6]; rfl
  have hlH := Lib.hid hl
  have hH := Lib.hid h
  have hokH := Lib.hid hok
  have hix := Lib.hid (fields_index nd)
  have hRH := Lib.hid hR
  clear h hR hrd hz hok hl h6
  unfold Nd.v
  go_enter Tryz.func32, Tryz.ntmps32
  go_wp2_with fail
  have hb0 : Below w.heap.size w (w.alloc (Obj.cells #[Value.int IntKind.u64 (nd.key : Nat), Value.int IntKind.u64 (nd.val : Nat), Value.int IntKind.u64 (nd.left : Nat), Value.int IntKind.u64 (nd.right : Nat), Value.int IntKind.u64 (nd.mark : Nat), Value.int IntKind.u64 (nd.size : Nat)] 53)) := (Below.refl _ w).alloc (Nat.le_refl _) _
  have hb0H := Lib.hid hb0
  refine (hA.out _ hb0).mono ?_
  rintro e w1 ⟨rfl, rfl⟩
  go_wp2_with fail
  refine (hFl.out _).mono ?_
  rintro e w2 ⟨rfl, hb2⟩
  have hb2H := Lib.hid (hb0.trans (hb2.mono hb0.size))
  clear hb2 hb0
  have hS0 : Hid (StoreIs w2 s F (updR R x (some (mix nd.ws ws 0))) H P q most last G) := Lib.hid (by
    rw [mix_zero, updR_id hRH.out]
    exact hH.out.below hb2H.out)
  have hT0 : Hid (Turn w F w2 F) := Lib.hid (Turn.below hb2H.out)
  clear hFl hA hH
  go_wp2_with fail
  go_loopw [18] (fun iv wr => ∃ k : Nat, k ≤ 6 ∧ iv = .int .i64 k ∧ Hid (StoreIs wr s F (updR R x (some (mix nd.ws ws k))) H P q most last G) ∧ Hid (Turn w F wr F)) (fun iv _ => 6 - (intOf iv).toNat)
  case atStart => exact ⟨0, by omega, rfl, hS0, hT0⟩
  case round =>
    obtain ⟨k, hk, rfl, hSr, hTr⟩ := hrel
    by_cases hlt : k < 6
    · have hi := fun W => hix.out k hlt W
      have hPt := sput_at hSr.out (x := x) (i := k) (u := nd.ws[k]?.getD 0) (ws := mix nd.ws ws k) (updR_same _ _ _) (by rw [mix_len hlH.out k (by show k ≤ 6; omega)]; exact hlt) (hokH.out.ws k)
      rw [updR_twice, mix_set hlH.out k hlt] at hPt
      have hPH := Lib.hid hPt
      clear hPt
      generalize nd.ws[k]?.getD 0 = u at *
      go_wp2_with fail
      refine hPH.out.mono ?_
      rintro e w3 ⟨rfl, hS3, hT3⟩
      have hS3H := Lib.hid hS3
      have hT3H := Lib.hid (hTr.out.trans hT3)
      clear hS3 hT3
      go_wp2
      go_roundw
      case rel => exact ⟨k + 1, by omega, by go_num, hS3H, hT3H⟩
      case measure => simp [intOf]; omega
    · obtain rfl : k = 6 := by omega
      go_wp2
      go_ret
      refine ⟨rfl, ?_, hTr.out⟩
      have := hSr.out
      rw [show mix nd.ws ws 6 = nd.ws from mix_all hlH.out] at this
      exact this
set_option maxHeartbeats 2000000 in
set_option maxRecDepth 100000 in
theorem nmake_at (h : StoreIs w s F R H P q most last G) (nd : Nd) (hok : nd.Ok) :
    Calls Tryz.prog 60 #[.pointer (some ⟨s, 0, none⟩), nd.v] w (MadeW w s F R H P q most last G nd.ws) := by
  have hb0 : Below w.heap.size w (w.alloc (Obj.cells #[Value.int IntKind.u64 (nd.key : Nat), Value.int IntKind.u64 (nd.val : Nat), Value.int IntKind.u64 (nd.left : Nat), Value.int IntKind.u64 (nd.right : Nat), Value.int IntKind.u64 (nd.mark : Nat), Value.int IntKind.u64 (nd.size : Nat)] 53)) := (Below.refl _ w).alloc (Nat.le_refl _) _
  have hM := Lib.hid (smake_at (h.below hb0) 6 (by omega))
  have hH := Lib.hid h
  have hokH := Lib.hid hok
  have hb0H := Lib.hid hb0
  have hFr : Hid (¬ F w.heap.size) := Lib.hid (fun hf => by have := h.lt hf; omega)
  clear h hok hb0
  unfold Nd.v
  go_enter Tryz.func60, Tryz.ntmps60
  go_wp2_with fail
  refine hM.out.mono ?_
  rintro e w2 (⟨x, F', hx0, hxn, hx64, rfl, hS, hT⟩ | ⟨er, F', rfl, her, hS, hT⟩)
  · have hP := Lib.hid (nput_at hS (x := x) (updR_same _ _ _) (by simp) nd hokH.out)
    have hT2 := Lib.hid ((Turn.below (F := F) hb0H.out).trans hT)
    have hc : ∀ (k : Nat) (v : Value), (w.alloc (Obj.cells #[Value.int IntKind.u64 (nd.key : Nat), Value.int IntKind.u64 (nd.val : Nat), Value.int IntKind.u64 (nd.left : Nat), Value.int IntKind.u64 (nd.right : Nat), Value.int IntKind.u64 (nd.mark : Nat), Value.int IntKind.u64 (nd.size : Nat)] 53)).cell? ⟨w.heap.size, k, none⟩ = some v → w2.cell? ⟨w.heap.size, k, none⟩ = some v := fun k v hv => hT.cell hv hFr.out
    have c0 := hc 0 (.int .u64 (nd.key : Nat)) (by go_simp)
    have c1 := hc 1 (.int .u64 (nd.val : Nat)) (by go_simp)
    have c2 := hc 2 (.int .u64 (nd.left : Nat)) (by go_simp)
    have c3 := hc 3 (.int .u64 (nd.right : Nat)) (by go_simp)
    have c4 := hc 4 (.int .u64 (nd.mark : Nat)) (by go_simp)
    have c5 := hc 5 (.int .u64 (nd.size : Nat)) (by go_simp)
    have hx0H := Lib.hid hx0
    clear hS hT hM hH hc hx0
    go_wp2_with fail
    refine hP.out.mono ?_
    rintro e w3 ⟨rfl, hS3, hT3⟩
    rw [updR_twice] at hS3
    have hS3H := Lib.hid hS3
    have hT3H := Lib.hid (hT2.out.trans hT3)
    clear hS3 hT3 c0 c1 c2 c3 c4 c5
    go_wp2
    go_ret2
    exact .inl ⟨x, F', hx0H.out, hxn, hx64, rfl, hS3H.out, hT3H.out⟩
  · have hT2 := Lib.hid ((Turn.below (F := F) hb0H.out).trans hT)
    have hSH := Lib.hid hS
    have herH := Lib.hid her
    have d2 : ((er : Int) != 0) = true := by simp; omega
    clear hS hT hM hH her
    go_wp2
    go_ret2
    exact .inr ⟨er, F', rfl, herH.out, hSH.out, hT2.out⟩
set_option maxRecDepth 100000 in
theorem ndrop_at (h : StoreIs w s F R H P q most last G) {x : Nat} {ws : List Nat} (hR : R x = some ws) (h6 : ws.length = 6) :
    Calls Tryz.prog 79 #[.pointer (some ⟨s, 0, none⟩), .int .u64 (x : Nat)] w fun e w' => ∃ F', e = .returned (.int .i64 0) ∧ StoreIs w' s F' (updR R x none) (H.erase x) P q most last G ∧ Turn w F w' F' := by
  obtain ⟨n, hrd, _⟩ := h.rd
  have hx := (hrd.u64 hR).1
  have hz : nodeE R x = 0 := nodeE_zero.2 ⟨_, by unfold nodeR; rw [hR]; exact if_pos h6⟩
  have hA := asked_at hrd x hx
  rw [hz] at hA
  have hAH := Lib.hid hA
  have hD := Lib.hid (sdrop_at h hR)
  clear h hR hrd hz hA
  go_enter Tryz.func79, Tryz.ntmps79
  go_wp2_with fail
  refine hAH.out.mono ?_
  rintro e w1 ⟨rfl, rfl⟩
  go_wp2_with fail
  refine hD.out.mono ?_
  rintro e w1 ⟨F', rfl, hS, hT⟩
  have hSH := Lib.hid hS
  have hTH := Lib.hid hT
  clear hS hT
  go_wp2
  go_ret
  exact ⟨F', rfl, hSH.out, hTH.out⟩
set_option maxRecDepth 100000 in
theorem bdrop_at (h : StoreIs w s F R H P q most last G) (hsh : Short R) {x : Nat} {ws : List Nat} (hR : R x = some ws) (ht : Tx.isText ws) :
    Calls Tryz.prog 78 #[.pointer (some ⟨s, 0, none⟩), .int .u64 (x : Nat)] w fun e w' => ∃ F', e = .returned (.int .i64 0) ∧ StoreIs w' s F' (updR R x none) (H.erase x) P q most last G ∧ Turn w F w' F' := by
  obtain ⟨n, hrd, _⟩ := h.rd
  have hx := (hrd.u64 hR).1
  have hG := bget_at hrd hsh x hx
  rw [blobV_some hR, Tx.ofR_yes ht] at hG
  have hGH := Lib.hid hG
  have hD := Lib.hid (fun w' (hb : Below w.heap.size w w') => sdrop_at (h.below hb) hR)
  clear h hR hrd hG
  go_enter Tryz.func78, Tryz.ntmps78
  go_wp2_with fail
  refine hGH.out.mono ?_
  rintro e w1 ⟨rfl, hb1⟩
  have hD1 := Lib.hid (hD.out w1 hb1)
  have hb1H := Lib.hid hb1
  clear hb1
  go_wp2_with fail
  refine hD1.out.mono ?_
  rintro e w2 ⟨F', rfl, hS, hT⟩
  have hSH := Lib.hid hS
  have hTH := Lib.hid ((Turn.below hb1H.out).trans hT)
  clear hS hT
  go_wp2
  go_ret
  exact ⟨F', rfl, hSH.out, hTH.out⟩
end
end Go.Proofs.YtjpmlneihbckpaaGreatDoor
/- walk: limit, Size, key, Pair, fits. -/
set_option linter.unusedVariables false
set_option linter.unusedSimpArgs false
namespace Go.Proofs.YtjpmlneihbckpaaGreatDoor
open Go.RowKit Go.Shelf
section
variable {w w' : World} {s N : Nat} {R : Nat → Option (List Nat)} {n : Nat}
theorem nget_lit (h : Rd N w s R n) (x : Nat) (hx : x < 18446744073709551616) (nd : Nd) (hnd : nodeG R x = nd) (z : Nat) (hz : nodeE R x = z) :
    Calls Tryz.prog 31 #[.pointer (some ⟨s, 0, none⟩), .int .u64 (x : Nat)] w fun e w' => e = .returned (.tuple #[.agg #[.int .u64 (nd.key : Nat), .int .u64 (nd.val : Nat), .int .u64 (nd.left : Nat), .int .u64 (nd.right : Nat), .int .u64 (nd.mark : Nat), .int .u64 (nd.size : Nat)], .int .i64 (z : Nat)]) ∧ Below w.heap.size w w' :=
  (nget_at h x hx).mono fun e w' ⟨he, hb⟩ => ⟨by rw [he]; unfold nodeV; rw [hnd, hz]; rfl, hb⟩
theorem nodeE_lt (R : Nat → Option (List Nat)) (x : Nat) : nodeE R x < 10 := by unfold nodeE; split <;> (try split) <;> omega
theorem blobE_lt (R : Nat → Option (List Nat)) (x : Nat) : blobE R x < 10 := by unfold blobE; split <;> (try split) <;> omega
/-- how many nodes a tree has, as its root says -/
def tsizeR (R : Nat → Option (List Nat)) (x : Nat) : Int := wrap64 (nodeG R x).size
theorem nodeG_err {R : Nat → Option (List Nat)} {x : Nat} (h : nodeE R x ≠ 0) : nodeG R x = Nd.zero := by
  unfold nodeG
  cases hR : nodeR R x with
  | none => rfl
  | some nd => exact absurd (nodeE_zero.2 ⟨nd, hR⟩) h
set_option maxRecDepth 100000 in
theorem limit_at (h : Rd N w s R n) : Calls Tryz.prog 96 #[.pointer (some ⟨s, 0, none⟩)] w fun e w' => e = .returned (.int .i64 (n / 8 + 1 : Nat)) ∧ Below w.heap.size w w' := by
  have hW := Lib.hid (rwords_at h)
  have hn := h.le
  clear h
  go_enter Tryz.func96, Tryz.ntmps96
  go_wp2_with fail
  refine hW.out.mono ?_
  rintro e w1 ⟨rfl, hb⟩
  have hbH := Lib.hid hb
  clear hb
  go_wp2
  go_ret
  exact ⟨by congr 2, hbH.out⟩
set_option maxRecDepth 100000 in
theorem size_at (h : Rd N w s R n) (x : Nat) (hx : x < 18446744073709551616) : Calls Tryz.prog 23 #[.pointer (some ⟨s, 0, none⟩), .int .u64 (x : Nat)] w fun e w' => e = .returned (.int .i64 (tsizeR R x)) ∧ Below w.heap.size w w' := by
  obtain ⟨nd, hnd⟩ : ∃ nd, nodeG R x = nd := ⟨_, rfl⟩
  obtain ⟨z, hz⟩ : ∃ z, nodeE R x = z := ⟨_, rfl⟩
  have hG := Lib.hid (nget_lit h x hx nd hnd z hz)
  have hz1 : z < 10 := hz ▸ nodeE_lt R x
  have hok := h.nodeG x
  rw [hnd] at hok
  have hsz := hok.size
  have hv : Hid (tsizeR R x = wrap64 nd.size) := Lib.hid (by unfold tsizeR; rw [hnd])
  by_cases hz0 : z = 0
  · subst hz0
    clear h hnd hz hok
    go_enter Tryz.func23, Tryz.ntmps23
    go_wp2_with fail
    refine hG.out.mono ?_
    rintro e w1 ⟨rfl, hb⟩
    have hbH := Lib.hid hb
    have hz1 := hb.size
    clear hb
    go_wp2
    go_ret
    exact ⟨by rw [hv.out]; rfl, hbH.out.alloc hz1 _⟩
  · have d : ((z : Int) != 0) = true := by simp; omega
    have hnz : nd = Nd.zero := by rw [← hnd]; exact nodeG_err (by rw [hz]; exact hz0)
    subst hnz
    have hv2 : Hid (tsizeR R x = 0) := Lib.hid (by rw [hv.out]; show wrap64 ((0 : Nat) : Int) = 0; exact IntWalk.wrap64_in 0 (by omega))
    clear h hnd hz hok
    go_enter Tryz.func23, Tryz.ntmps23
    go_wp2_with fail
    refine hG.out.mono ?_
    rintro e w1 ⟨rfl, hb⟩
    have hbH := Lib.hid hb
    have hz1 := hb.size
    clear hb
    go_wp2
    go_ret
    exact ⟨by rw [hv2.out]; rfl, hbH.out.alloc hz1 _⟩
set_option maxRecDepth 100000 in
theorem size_nil (x : Nat) (w : World) : Calls Tryz.prog 23 #[.pointer none, .int .u64 (x : Nat)] w fun e w' => e = .returned (.int .i64 0) ∧ Below w.heap.size w w' := by
  have hG := Lib.hid (nget_nil x w)
  go_enter Tryz.func23, Tryz.ntmps23
  go_wp2_with fail
  refine hG.out.mono ?_
  unfold Nd.v Nd.zero
  rintro e w1 ⟨rfl, hb⟩
  have hbH := Lib.hid hb
  have hz1 := hb.size
  clear hb
  go_wp2
  go_ret
  exact ⟨rfl, hbH.out.alloc hz1 _⟩
/-- a node's key, if it has one -/
def keyR (R : Nat → Option (List Nat)) (nd : Nd) : ByteArray := (blobR R nd.key).getD ⟨#[]⟩
end
end Go.Proofs.YtjpmlneihbckpaaGreatDoor
/- walk: Pair, fits. -/
set_option linter.unusedVariables false
set_option linter.unusedSimpArgs false
namespace Go.Proofs.YtjpmlneihbckpaaGreatDoor
open Go.RowKit Go.Shelf
/-- what Pair answers: an error, or two texts -/
def pairE (R : Nat → Option (List Nat)) (x : Nat) : Nat :=
  if nodeE R x ≠ 0 then nodeE R x else if blobE R (nodeG R x).key ≠ 0 then blobE R (nodeG R x).key else blobE R (nodeG R x).val
def pairP (R : Nat → Option (List Nat)) (x : Nat) : ByteArray × ByteArray :=
  if pairE R x = 0 then ((blobR R (nodeG R x).key).getD ⟨#[]⟩, (blobR R (nodeG R x).val).getD ⟨#[]⟩) else (⟨#[]⟩, ⟨#[]⟩)
def prV (p : ByteArray × ByteArray) : Value := .agg #[.string p.1, .string p.2]
theorem alloc_cell {W : World} {p : Addr} {v : Value} (o : Obj) (h : W.cell? p = some v) : (W.alloc o).cell? p = some v := (((Below.refl W.heap.size W).alloc (Nat.le_refl _) o).cell (cell_lt h)).trans h
theorem two_set {W : World} {b : Nat} {a c : Value} (h0 : W.cell? ⟨b, 0, none⟩ = some a) (h1 : W.cell? ⟨b, 1, none⟩ = some c) (u v : Value) :
    ((W.setCell ⟨b, 0, none⟩ u).setCell ⟨b, 1, none⟩ v).cell? ⟨b, 0, none⟩ = some u ∧ ((W.setCell ⟨b, 0, none⟩ u).setCell ⟨b, 1, none⟩ v).cell? ⟨b, 1, none⟩ = some v := by
  have e0 : (W.setCell ⟨b, 0, none⟩ u).cell? ⟨b, 0, none⟩ = some u := World.cell?_setCell_same' _ _ _ (by rw [h0]; rfl)
  have e1 : (W.setCell ⟨b, 0, none⟩ u).cell? ⟨b, 1, none⟩ = some c := by go_simp
  exact ⟨(by go_simp : ((W.setCell ⟨b, 0, none⟩ u).setCell ⟨b, 1, none⟩ v).cell? ⟨b, 0, none⟩ = (W.setCell ⟨b, 0, none⟩ u).cell? ⟨b, 0, none⟩).trans e0, World.cell?_setCell_same' _ _ _ (by rw [e1]; rfl)⟩
section
variable {w w' : World} {s N : Nat} {R : Nat → Option (List Nat)} {n : Nat}
set_option maxHeartbeats 2000000 in
set_option maxRecDepth 100000 in
theorem pair_at (h : Rd N w s R n) (hsh : Short R) (x : Nat) (hx : x < 18446744073709551616) :
    Calls Tryz.prog 61 #[.pointer (some ⟨s, 0, none⟩), .int .u64 (x : Nat)] w fun e w' => e = .returned (.tuple #[prV (pairP R x), .int .i64 (pairE R x : Nat)]) ∧ Below w.heap.size w w' := by
  obtain ⟨nd, hnd⟩ : ∃ nd, nodeG R x = nd := ⟨_, rfl⟩
  obtain ⟨z, hz⟩ : ∃ z, nodeE R x = z := ⟨_, rfl⟩
  have hb0 : Below w.heap.size w (w.alloc (Obj.cells #[Value.string ⟨#[]⟩, Value.string ⟨#[]⟩] 46)) := (Below.refl _ w).alloc (Nat.le_refl _) _
  have hG := Lib.hid (nget_lit (h.below hb0) x hx nd hnd z hz)
  have hz1 : z < 10 := hz ▸ nodeE_lt R x
  have hok := h.nodeG x
  rw [hnd] at hok
  have hB := Lib.hid (fun w' (hb : Below w.heap.size w w') (y : Nat) (hy : y < 18446744073709551616) => bget_at (h.below hb) hsh y hy)
  unfold blobV at hB
  have hpe : pairE R x = if z ≠ 0 then z else if blobE R nd.key ≠ 0 then blobE R nd.key else blobE R nd.val := by unfold pairE; rw [hnd, hz]
  have hpp : pairP R x = if pairE R x = 0 then ((blobR R nd.key).getD ⟨#[]⟩, (blobR R nd.val).getD ⟨#[]⟩) else (⟨#[]⟩, ⟨#[]⟩) := by unfold pairP; rw [hnd]
  have hb0H := Lib.hid hb0
  have hokk := hok.key
  have hokv := hok.val
  have hsz : (w.alloc (Obj.cells #[Value.string ⟨#[]⟩, Value.string ⟨#[]⟩] 46)).heap.size = w.heap.size + 1 := by simp
  have c0 : (w.alloc (Obj.cells #[Value.string ⟨#[]⟩, Value.string ⟨#[]⟩] 46)).cell? ⟨w.heap.size, 0, none⟩ = some (.string ⟨#[]⟩) := by go_simp
  have c1 : (w.alloc (Obj.cells #[Value.string ⟨#[]⟩, Value.string ⟨#[]⟩] 46)).cell? ⟨w.heap.size, 1, none⟩ = some (.string ⟨#[]⟩) := by go_simp
  have g0 : (w.alloc (Obj.cells #[Value.string ⟨#[]⟩, Value.string ⟨#[]⟩] 46)).frozen? ⟨w.heap.size, 0, none⟩ = false := by go_simp
  have g1 : (w.alloc (Obj.cells #[Value.string ⟨#[]⟩, Value.string ⟨#[]⟩] 46)).frozen? ⟨w.heap.size, 1, none⟩ = false := by go_simp
  by_cases hz0 : z = 0
  · subst hz0
    rw [if_neg (by simp)] at hpe
    obtain ⟨z1, hz1⟩ : ∃ z1, z1 = blobE R nd.key := ⟨_, rfl⟩
    obtain ⟨z2, hz2⟩ : ∃ z2, z2 = blobE R nd.val := ⟨_, rfl⟩
    obtain ⟨t1, ht1⟩ : ∃ t1, t1 = (blobR R nd.key).getD ⟨#[]⟩ := ⟨_, rfl⟩
    obtain ⟨t2, ht2⟩ : ∃ t2, t2 = (blobR R nd.val).getD ⟨#[]⟩ := ⟨_, rfl⟩
    have hB1 := Lib.hid (fun w' (hb : Below w.heap.size w w') => hB.out w' hb nd.key hokk)
    have hB2 := Lib.hid (fun w' (hb : Below w.heap.size w w') => hB.out w' hb nd.val hokv)
    rw [← hz1, ← hz2] at hpe
    rw [← ht1, ← ht2] at hpp
    rw [← hz1, ← ht1] at hB1
    rw [← hz2, ← ht2] at hB2
    have hz1' : z1 < 10 := hz1 ▸ blobE_lt R nd.key
    have hz2' : z2 < 10 := hz2 ▸ blobE_lt R nd.val
    have hpeH := Lib.hid hpe
    have hppH := Lib.hid hpp
    clear h hnd hz hok hpe hpp hB hb0 hz1 hz2 ht1 ht2
    go_enter Tryz.func61, Tryz.ntmps61
    go_wp2_with fail
    generalize (w.alloc (Obj.cells #[Value.string ⟨#[]⟩, Value.string ⟨#[]⟩] 46)) = W0 at *
    refine hG.out.mono ?_
    rintro e w1 ⟨rfl, hb⟩
    have hbw := hb0H.out.trans (hb.mono hb0H.out.size)
    have hzz := hb.size
    have d0 := (hb.cell (p := ⟨w.heap.size, 0, none⟩) (cell_lt c0)).trans c0
    have d1 := (hb.cell (p := ⟨w.heap.size, 1, none⟩) (cell_lt c1)).trans c1
    have e0 := (hb.frozen (p := ⟨w.heap.size, 0, none⟩) (cell_lt c0)).trans g0
    have e1 := (hb.frozen (p := ⟨w.heap.size, 1, none⟩) (cell_lt c1)).trans g1
    have hzw : w.heap.size < w1.heap.size := by omega
    have hz1w : w.heap.size ≤ w1.heap.size := by omega
    have hbw1 := Lib.hid (hbw.alloc hz1w (Obj.cells #[Value.int IntKind.u64 (nd.key : Nat), Value.int IntKind.u64 (nd.val : Nat), Value.int IntKind.u64 (nd.left : Nat), Value.int IntKind.u64 (nd.right : Nat), Value.int IntKind.u64 (nd.mark : Nat), Value.int IntKind.u64 (nd.size : Nat)] 53))
    have m0 := fun X : Bel (w1.alloc (Obj.cells #[Value.int IntKind.u64 (nd.key : Nat), Value.int IntKind.u64 (nd.val : Nat), Value.int IntKind.u64 (nd.left : Nat), Value.int IntKind.u64 (nd.right : Nat), Value.int IntKind.u64 (nd.mark : Nat), Value.int IntKind.u64 (nd.size : Nat)] 53)) => 0
    have n1 : (w1.alloc (Obj.cells #[Value.int IntKind.u64 (nd.key : Nat), Value.int IntKind.u64 (nd.val : Nat), Value.int IntKind.u64 (nd.left : Nat), Value.int IntKind.u64 (nd.right : Nat), Value.int IntKind.u64 (nd.mark : Nat), Value.int IntKind.u64 (nd.size : Nat)] 53)).cell? ⟨w1.heap.size, 1, none⟩ = some (.int .u64 (nd.val : Nat)) := by go_simp
    have p0 : (w1.alloc (Obj.cells #[Value.int IntKind.u64 (nd.key : Nat), Value.int IntKind.u64 (nd.val : Nat), Value.int IntKind.u64 (nd.left : Nat), Value.int IntKind.u64 (nd.right : Nat), Value.int IntKind.u64 (nd.mark : Nat), Value.int IntKind.u64 (nd.size : Nat)] 53)).cell? ⟨w.heap.size, 0, none⟩ = some (.string ⟨#[]⟩) := by go_simp
    have p1 : (w1.alloc (Obj.cells #[Value.int IntKind.u64 (nd.key : Nat), Value.int IntKind.u64 (nd.val : Nat), Value.int IntKind.u64 (nd.left : Nat), Value.int IntKind.u64 (nd.right : Nat), Value.int IntKind.u64 (nd.mark : Nat), Value.int IntKind.u64 (nd.size : Nat)] 53)).cell? ⟨w.heap.size, 1, none⟩ = some (.string ⟨#[]⟩) := by go_simp
    have q0 : (w1.alloc (Obj.cells #[Value.int IntKind.u64 (nd.key : Nat), Value.int IntKind.u64 (nd.val : Nat), Value.int IntKind.u64 (nd.left : Nat), Value.int IntKind.u64 (nd.right : Nat), Value.int IntKind.u64 (nd.mark : Nat), Value.int IntKind.u64 (nd.size : Nat)] 53)).frozen? ⟨w.heap.size, 0, none⟩ = false := by go_simp
    have q1 : (w1.alloc (Obj.cells #[Value.int IntKind.u64 (nd.key : Nat), Value.int IntKind.u64 (nd.val : Nat), Value.int IntKind.u64 (nd.left : Nat), Value.int IntKind.u64 (nd.right : Nat), Value.int IntKind.u64 (nd.mark : Nat), Value.int IntKind.u64 (nd.size : Nat)] 53)).frozen? ⟨w.heap.size, 1, none⟩ = false := by go_simp
    clear hb c0 c1 g0 g1 hG hbw d0 d1 e0 e1 m0
    have hBk := Lib.hid (hB1.out _ hbw1.out)
    go_wp2_with fail
    generalize (w1.alloc (Obj.cells #[Value.int IntKind.u64 (nd.key : Nat), Value.int IntKind.u64 (nd.val : Nat), Value.int IntKind.u64 (nd.left : Nat), Value.int IntKind.u64 (nd.right : Nat), Value.int IntKind.u64 (nd.mark : Nat), Value.int IntKind.u64 (nd.size : Nat)] 53)) = W1 at *
    refine hBk.out.mono ?_
    rintro e w2 ⟨rfl, hb⟩
    have hbw2 := Lib.hid (hbw1.out.trans (hb.mono hbw1.out.size))
    have a1 := (hb.cell (p := ⟨w1.heap.size, 1, none⟩) (cell_lt n1)).trans n1
    have b0 := (hb.cell (p := ⟨w.heap.size, 0, none⟩) (cell_lt p0)).trans p0
    have b1 := (hb.cell (p := ⟨w.heap.size, 1, none⟩) (cell_lt p1)).trans p1
    have c0 := (hb.frozen (p := ⟨w.heap.size, 0, none⟩) (cell_lt p0)).trans q0
    have c1 := (hb.frozen (p := ⟨w.heap.size, 1, none⟩) (cell_lt p1)).trans q1
    clear hb n1 p0 p1 q0 q1 hBk
    by_cases hk0 : z1 = 0
    · subst hk0
      have hBk2 := Lib.hid (hB2.out _ hbw2.out)
      rw [if_neg (by simp)] at hpeH
      go_wp2_with fail
      refine hBk2.out.mono ?_
      rintro e w3 ⟨rfl, hb⟩
      have hbw3 := Lib.hid (hbw2.out.trans (hb.mono hbw2.out.size))
      have s0 := (hb.cell (p := ⟨w.heap.size, 0, none⟩) (cell_lt b0)).trans b0
      have s1 := (hb.cell (p := ⟨w.heap.size, 1, none⟩) (cell_lt b1)).trans b1
      have u0 := (hb.frozen (p := ⟨w.heap.size, 0, none⟩) (cell_lt b0)).trans c0
      have u1 := (hb.frozen (p := ⟨w.heap.size, 1, none⟩) (cell_lt b1)).trans c1
      clear hb b0 b1 c0 c1 a1 hBk2
      by_cases hk1 : z2 = 0
      · subst hk1
        rw [hpeH.out, if_pos rfl] at hppH
        go_wp2
        have ht := two_set s0 s1 (Value.string t1) (Value.string t2)
        have hbf := ((hbw3.out.setCell (p := ⟨w.heap.size, 0, none⟩) (by simp) (Value.string t1)).setCell (p := ⟨w.heap.size, 1, none⟩) (by simp) (Value.string t2))
        generalize World.setCell _ _ _ = Wf at *
        refine bodyPost_ret (v := .tuple #[prV (t1, t2), .int .i64 0]) ?_ rfl ⟨by rw [hpeH.out, hppH.out]; rfl, hbf⟩
        simp [results, Tryz.f61, go_sem, prV, ht.1, ht.2]
      · have d : ((z2 : Int) != 0) = true := by simp; omega
        rw [hpeH.out, if_neg hk1] at hppH
        go_wp2
        have ht := two_set s0 s1 (Value.string ⟨#[]⟩) (Value.string ⟨#[]⟩)
        have hbf := ((hbw3.out.setCell (p := ⟨w.heap.size, 0, none⟩) (by simp) (Value.string ⟨#[]⟩)).setCell (p := ⟨w.heap.size, 1, none⟩) (by simp) (Value.string ⟨#[]⟩))
        generalize World.setCell _ _ _ = Wf at *
        refine bodyPost_ret (v := .tuple #[prV (⟨#[]⟩, ⟨#[]⟩), .int .i64 (z2 : Nat)]) ?_ rfl ⟨by rw [hpeH.out, hppH.out], hbf⟩
        simp [results, Tryz.f61, go_sem, prV, ht.1, ht.2]
    · have d : ((z1 : Int) != 0) = true := by simp; omega
      rw [if_pos hk0] at hpeH
      rw [hpeH.out, if_neg hk0] at hppH
      go_wp2
      have ht := two_set b0 b1 (Value.string ⟨#[]⟩) (Value.string ⟨#[]⟩)
      have hbf := ((hbw2.out.setCell (p := ⟨w.heap.size, 0, none⟩) (by simp) (Value.string ⟨#[]⟩)).setCell (p := ⟨w.heap.size, 1, none⟩) (by simp) (Value.string ⟨#[]⟩))
      generalize World.setCell _ _ _ = Wf at *
      refine bodyPost_ret (v := .tuple #[prV (⟨#[]⟩, ⟨#[]⟩), .int .i64 (z1 : Nat)]) ?_ rfl ⟨by rw [hpeH.out, hppH.out], hbf⟩
      simp [results, Tryz.f61, go_sem, prV, ht.1, ht.2]
  · have d : ((z : Int) != 0) = true := by simp; omega
    rw [if_pos hz0] at hpe
    rw [hpe, if_neg hz0] at hpp
    rw [hpe, hpp]
    clear h hnd hz hok hpe hpp hB hb0
    go_enter Tryz.func61, Tryz.ntmps61
    go_wp2_with fail
    generalize (w.alloc (Obj.cells #[Value.string ⟨#[]⟩, Value.string ⟨#[]⟩] 46)) = W0 at *
    refine hG.out.mono ?_
    rintro e w1 ⟨rfl, hb⟩
    have hbH := Lib.hid (hb0H.out.trans (hb.mono hb0H.out.size))
    have hz1 := hb.size
    have d0 := (hb.cell (p := ⟨w.heap.size, 0, none⟩) (cell_lt c0)).trans c0
    have d1 := (hb.cell (p := ⟨w.heap.size, 1, none⟩) (cell_lt c1)).trans c1
    have e0 := (hb.frozen (p := ⟨w.heap.size, 0, none⟩) (cell_lt c0)).trans g0
    have e1 := (hb.frozen (p := ⟨w.heap.size, 1, none⟩) (cell_lt c1)).trans g1
    have hzw : w.heap.size < w1.heap.size := by omega
    clear hb c0 c1 g0 g1 hG
    go_wp2
    have ht := two_set d0 d1 (Value.string ⟨#[]⟩) (Value.string ⟨#[]⟩)
    have r0 := alloc_cell (Obj.cells #[Value.int IntKind.u64 (nd.key : Nat), Value.int IntKind.u64 (nd.val : Nat), Value.int IntKind.u64 (nd.left : Nat), Value.int IntKind.u64 (nd.right : Nat), Value.int IntKind.u64 (nd.mark : Nat), Value.int IntKind.u64 (nd.size : Nat)] 53) ht.1
    have r1 := alloc_cell (Obj.cells #[Value.int IntKind.u64 (nd.key : Nat), Value.int IntKind.u64 (nd.val : Nat), Value.int IntKind.u64 (nd.left : Nat), Value.int IntKind.u64 (nd.right : Nat), Value.int IntKind.u64 (nd.mark : Nat), Value.int IntKind.u64 (nd.size : Nat)] 53) ht.2
    have hbf := ((hbH.out.setCell (p := ⟨w.heap.size, 0, none⟩) (by simp) (Value.string ⟨#[]⟩)).setCell (p := ⟨w.heap.size, 1, none⟩) (by simp) (Value.string ⟨#[]⟩)).alloc (by simp; omega) (Obj.cells #[Value.int IntKind.u64 (nd.key : Nat), Value.int IntKind.u64 (nd.val : Nat), Value.int IntKind.u64 (nd.left : Nat), Value.int IntKind.u64 (nd.right : Nat), Value.int IntKind.u64 (nd.mark : Nat), Value.int IntKind.u64 (nd.size : Nat)] 53)
    generalize World.alloc _ _ = Wf at *
    refine bodyPost_ret (v := .tuple #[prV (⟨#[]⟩, ⟨#[]⟩), .int .i64 (z : Nat)]) ?_ rfl ⟨rfl, hbf⟩
    simp [results, Tryz.f61, go_sem, prV, r0, r1]
end
end Go.Proofs.YtjpmlneihbckpaaGreatDoor
/- walk: fits, down, Find, Rank. -/
set_option linter.unusedVariables false
set_option linter.unusedSimpArgs false
namespace Go.Proofs.YtjpmlneihbckpaaGreatDoor
open Go.RowKit Go.Shelf
/-- the nodes on the way down to a key: what is found, how many keys are below -/
def downR (R : Nat → Option (List Nat)) (k : ByteArray) : Nat → Nat → Int → Nat × Int
  | 0, _, below => (0, below)
  | f + 1, x, below =>
    if x = 0 then (0, below)
    else if nodeE R x ≠ 0 then (0, below)
    else if Tx.cmp k (keyR R (nodeG R x)) < 0 then downR R k f (nodeG R x).left below
    else if 0 < Tx.cmp k (keyR R (nodeG R x)) then downR R k f (nodeG R x).right (wrap64 (below + wrap64 (tsizeR R (nodeG R x).left + 1)))
    else (x, wrap64 (below + tsizeR R (nodeG R x).left))
section
variable {w w' : World} {s N : Nat} {R : Nat → Option (List Nat)} {n : Nat}
/-- the node of a key -/
def findR (R : Nat → Option (List Nat)) (n x : Nat) (k : ByteArray) : Nat := (downR R k (n / 8 + 1) x 0).1
def rankR (R : Nat → Option (List Nat)) (n x : Nat) (k : ByteArray) : Int := (downR R k (n / 8 + 1) x 0).2
end
end Go.Proofs.YtjpmlneihbckpaaGreatDoor
/- walk: At, fits. -/
set_option linter.unusedVariables false
set_option linter.unusedSimpArgs false
namespace Go.Proofs.YtjpmlneihbckpaaGreatDoor
open Go.RowKit Go.Shelf
/-- the node that has so many keys below its own -/
def atG (R : Nat → Option (List Nat)) : Nat → Nat → Int → Nat × Nat
  | 0, _, _ => (0, 2)
  | f + 1, x, k =>
    if nodeE R x ≠ 0 then (0, 2)
    else if k < tsizeR R (nodeG R x).left then atG R f (nodeG R x).left k
    else if tsizeR R (nodeG R x).left < k then atG R f (nodeG R x).right (wrap64 (k - wrap64 (tsizeR R (nodeG R x).left + 1)))
    else (x, 0)
def spotAtR (R : Nat → Option (List Nat)) (n x : Nat) (k : Int) : Nat × Nat := if k < 0 ∨ tsizeR R x ≤ k then (0, 2) else atG R (n / 8 + 1) x k
section
variable {w w' : World} {s N : Nat} {R : Nat → Option (List Nat)} {n : Nat}
end
end Go.Proofs.YtjpmlneihbckpaaGreatDoor
/- walk: fits. -/
set_option linter.unusedVariables false
set_option linter.unusedSimpArgs false
namespace Go.Proofs.YtjpmlneihbckpaaGreatDoor
open Go.RowKit Go.Shelf
/-- a side's size, if it is right -/
def sideR (R : Nat → Option (List Nat)) (x : Nat) : Option Nat := if x = 0 then some 0 else if nodeE R x ≠ 0 then none else some (nodeG R x).size
def Nd.side (nd : Nd) (k : Nat) : Nat := if k = 0 then nd.left else nd.right
def fitAcc (R : Nat → Option (List Nat)) (nd : Nd) : Nat → Option Nat
  | 0 => some 1
  | k + 1 => (fitAcc R nd k).bind fun s => (sideR R (nd.side k)).map fun a => (s + a) % 18446744073709551616
def fitsR (R : Nat → Option (List Nat)) (nd : Nd) : Bool := match fitAcc R nd 2 with | some s => nd.size == s | none => false
theorem side_index (nd : Nd) (k : Nat) (hk : k < 2) (W : World) : (Instr.index 187 (.agg #[.int .u64 (nd.left : Nat), .int .u64 (nd.right : Nat)]) (.int .i64 (k : Nat))).run Tryz.prog W = .ok (.int .u64 (nd.side k : Nat)) W := by
  unfold Nd.side
  match k, hk with
  | 0, _ => simp [Instr.index, run_underlying Tryz.underlying187, asIntOf, go_sem]
  | 1, _ => simp [Instr.index, run_underlying Tryz.underlying187, asIntOf, go_sem]
  | k + 2, h => omega
theorem wrap_u64_nat (a b : Nat) : IntKind.u64.wrap ((a : Int) + (b : Int)) = (((a + b) % 18446744073709551616 : Nat) : Int) := by
  unfold IntKind.wrap
  simp [IntKind.signed, IntKind.bits]
theorem beq_u64 (a b : Nat) : (a == b) = ((a : Int) == (b : Int)) := by
  rw [Bool.eq_iff_iff, beq_iff_eq, beq_iff_eq]; omega
theorem fit_none (R : Nat → Option (List Nat)) (nd : Nd) (k : Nat) (hk : k < 2) (h : sideR R (nd.side k) = none) : fitsR R nd = false := by
  unfold fitsR
  have h1 : fitAcc R nd 2 = none := by
    match k, hk with
    | 0, _ =>
      have : fitAcc R nd 1 = none := by rw [fitAcc, h]; cases fitAcc R nd 0 <;> rfl
      rw [fitAcc, this]; rfl
    | 1, _ => rw [fitAcc, h]; cases fitAcc R nd 1 <;> rfl
    | k + 2, h => omega
  rw [h1]
section
variable {w w' : World} {s N : Nat} {R : Nat → Option (List Nat)} {n : Nat}
set_option maxHeartbeats 2000000 in
set_option maxRecDepth 100000 in
theorem fits_at (h : Rd N w s R n) (nd : Nd) (hok : nd.Ok) :
    Calls Tryz.prog 83 #[.pointer (some ⟨s, 0, none⟩), nd.v] w fun e w' => e = .returned (.bool (fitsR R nd)) ∧ Below w.heap.size w w' := by
  have hH := Lib.hid (fun w' (hb : Below w.heap.size w w') => h.below hb)
  have hix := Lib.hid (side_index nd)
  have hsz := hok.size
  have hside : Hid (∀ k, nd.side k < 18446744073709551616) := Lib.hid (fun k => by unfold Nd.side; split; exact hok.left; exact hok.right)
  have hb0 : Hid (Below w.heap.size w (w.alloc (Obj.cells #[Value.int IntKind.u64 (nd.key : Nat), Value.int IntKind.u64 (nd.val : Nat), Value.int IntKind.u64 (nd.left : Nat), Value.int IntKind.u64 (nd.right : Nat), Value.int IntKind.u64 (nd.mark : Nat), Value.int IntKind.u64 (nd.size : Nat)] 53))) := Lib.hid ((Below.refl _ w).alloc (Nat.le_refl _) _)
  have n5 : (w.alloc (Obj.cells #[Value.int IntKind.u64 (nd.key : Nat), Value.int IntKind.u64 (nd.val : Nat), Value.int IntKind.u64 (nd.left : Nat), Value.int IntKind.u64 (nd.right : Nat), Value.int IntKind.u64 (nd.mark : Nat), Value.int IntKind.u64 (nd.size : Nat)] 53)).cell? ⟨w.heap.size, 5, none⟩ = some (.int .u64 (nd.size : Nat)) := by go_simp
  have hz0 : w.heap.size < (w.alloc (Obj.cells #[Value.int IntKind.u64 (nd.key : Nat), Value.int IntKind.u64 (nd.val : Nat), Value.int IntKind.u64 (nd.left : Nat), Value.int IntKind.u64 (nd.right : Nat), Value.int IntKind.u64 (nd.mark : Nat), Value.int IntKind.u64 (nd.size : Nat)] 53)).heap.size := by simp
  obtain ⟨B, hB⟩ : ∃ B, B = fitsR R nd := ⟨_, rfl⟩
  have hBH := Lib.hid hB
  rw [← hB]
  clear h hok hB
  unfold Nd.v
  go_enter Tryz.func83, Tryz.ntmps83
  go_wp2_with fail
  generalize w.alloc (Obj.cells #[Value.int IntKind.u64 (nd.key : Nat), Value.int IntKind.u64 (nd.val : Nat), Value.int IntKind.u64 (nd.left : Nat), Value.int IntKind.u64 (nd.right : Nat), Value.int IntKind.u64 (nd.mark : Nat), Value.int IntKind.u64 (nd.size : Nat)] 53) = W0 at *
  go_loopw [15, 5] (fun iv sv wr => ∃ (k a : Nat), iv = .int .i64 k ∧ sv = .int .u64 a ∧ k ≤ 2 ∧ a < 18446744073709551616 ∧ Hid (fitAcc R nd k = some a) ∧ wr.cell? ⟨w.heap.size, 5, none⟩ = some (.int .u64 (nd.size : Nat)) ∧ Hid (Below w.heap.size w wr)) (fun iv _ _ => 2 - (intOf iv).toNat)
  case atStart => exact ⟨0, 1, rfl, rfl, by omega, by omega, Lib.hid rfl, n5, hb0⟩
  case round =>
    obtain ⟨k, a, rfl, rfl, hk, ha, hacc, hc, hb⟩ := hrel
    by_cases hlt : k < 2
    · have hi := fun W => hix.out k hlt W
      have hy := hside.out k
      obtain ⟨y, hyy⟩ : ∃ y, y = nd.side k := ⟨_, rfl⟩
      rw [← hyy] at hy hi
      have hyyH := Lib.hid hyy
      clear hyy
      by_cases hy0 : y = 0
      · subst hy0
        have hacc1 : Hid (fitAcc R nd (k + 1) = some a) := Lib.hid (by
          rw [fitAcc, hacc.out, ← hyyH.out]
          show ((sideR R 0).map fun b => (a + b) % 18446744073709551616) = some a
          rw [sideR, if_pos rfl]
          show some ((a + 0) % 18446744073709551616) = some a
          rw [Nat.add_zero, Nat.mod_eq_of_lt ha])
        go_wp2
        go_roundw
        case rel => exact ⟨k + 1, a, by go_num, rfl, by omega, ha, hacc1, hc, hb⟩
        case measure => simp [intOf]; omega
      · have dy : ((y : Int) == 0) = false := by simp; omega
        obtain ⟨nx, hnx⟩ : ∃ nx, nodeG R y = nx := ⟨_, rfl⟩
        obtain ⟨z, hz⟩ : ∃ z, nodeE R y = z := ⟨_, rfl⟩
        have hz1 : z < 10 := hz ▸ nodeE_lt R y
        have hr := hH.out wr hb.out
        have hG := Lib.hid (nget_lit hr y hy nx hnx z hz)
        have hnxs := (hr.nodeG y).size
        rw [hnx] at hnxs
        have hsd : sideR R y = if z ≠ 0 then none else some nx.size := by unfold sideR; rw [if_neg hy0, hz, hnx]
        have hsdH := Lib.hid hsd
        clear hr hnx hz hsd
        by_cases hz0 : z = 0
        · subst hz0
          have hacc1 : Hid (fitAcc R nd (k + 1) = some ((a + nx.size) % 18446744073709551616)) := Lib.hid (by
            rw [fitAcc, hacc.out, ← hyyH.out]
            show ((sideR R y).map fun b => (a + b) % 18446744073709551616) = _
            rw [hsdH.out, if_neg (by simp)]; rfl)
          go_wp2_with fail
          refine hG.out.mono ?_
          rintro e w2 ⟨rfl, hb2⟩
          have hb2H := Lib.hid (hb.out.trans (hb2.mono hb.out.size))
          have hz2 := hb2H.out.size
          have hc2 := (hb2.cell (p := ⟨w.heap.size, 5, none⟩) (cell_lt hc)).trans hc
          have hlt2 : w.heap.size < w2.heap.size := Nat.lt_of_lt_of_le (cell_lt hc) hb2.size
          clear hb2 hG
          go_wp2
          go_roundw
          case rel => exact ⟨k + 1, (a + nx.size) % 18446744073709551616, by go_num, by rw [wrap_u64_nat], by omega, Nat.mod_lt _ (by decide), hacc1, alloc_cell _ hc2, Lib.hid (hb2H.out.alloc hz2 _)⟩
          case measure => simp [intOf]; omega
        · have d : ((z : Int) != 0) = true := by simp; omega
          have hfin : Hid (B = false) := Lib.hid (by rw [hBH.out]; exact fit_none R nd k hlt (by rw [← hyyH.out, hsdH.out, if_pos hz0]))
          go_wp2_with fail
          refine hG.out.mono ?_
          rintro e w2 ⟨rfl, hb2⟩
          have hb2H := Lib.hid (hb.out.trans (hb2.mono hb.out.size))
          have hz2 := hb2H.out.size
          clear hb2
          go_wp2
          go_ret
          exact ⟨by rw [hfin.out]; rfl, hb2H.out.alloc hz2 _⟩
    · obtain rfl : k = 2 := by omega
      have hfin : Hid (B = (nd.size == a)) := Lib.hid (by rw [hBH.out]; unfold fitsR; rw [hacc.out])
      go_wp2
      go_ret
      exact ⟨by rw [hfin.out, beq_u64]; rfl, hb.out⟩
end
end Go.Proofs.YtjpmlneihbckpaaGreatDoor
/- walk.in: what it tells, and what it keeps of its own between two rounds. -/
set_option linter.unusedVariables false
set_option linter.unusedSimpArgs false
namespace Go.Proofs.YtjpmlneihbckpaaGreatDoor
open Go.RowKit Go.Shelf
/-- down the left sides: the stack, how many nodes may yet be met, where it ended; none: what is met is no node -/
def dive (R : Nat → Option (List Nat)) : Nat → List Nat → Nat → Option (List Nat × Nat × Nat)
  | 0, st, root => some (st, 0, root)
  | f + 1, st, root => if root = 0 then some (st, f + 1, 0) else if nodeE R root ≠ 0 then none else dive R f (root :: st) (nodeG R root).left
/-- what is told from here on -/
def goO (R : Nat → Option (List Nat)) : Nat → Nat → List Nat → Nat → List Nat
  | 0, _, _, _ => []
  | g + 1, f, st, root =>
    if f = 0 then st
    else match dive R f st root with
      | some (h :: st', f', _) => h :: goO R g f' st' (nodeG R h).right
      | _ => []
/-- what a range over a tree tells -/
def inR (R : Nat → Option (List Nat)) (n root : Nat) : List Nat := goO R (n / 8 + 1) (n / 8 + 1) [] root
theorem dive_sum (R : Nat → Option (List Nat)) : ∀ (f : Nat) (st : List Nat) (root : Nat) (st' : List Nat) (f' r' : Nat), dive R f st root = some (st', f', r') → f' + st'.length = f + st.length
  | 0, st, root, st', f', r', h => by
    unfold dive at h
    simp only [Option.some.injEq, Prod.mk.injEq] at h
    obtain ⟨rfl, rfl, _⟩ := h
    omega
  | f + 1, st, root, st', f', r', h => by
    unfold dive at h
    by_cases h0 : root = 0
    · rw [if_pos h0] at h
      simp only [Option.some.injEq, Prod.mk.injEq] at h
      obtain ⟨rfl, rfl, _⟩ := h
      omega
    · rw [if_neg h0] at h
      by_cases h1 : nodeE R root ≠ 0
      · rw [if_pos h1] at h; cases h
      · rw [if_neg h1] at h
        have := dive_sum R f _ _ _ _ _ h
        simp only [List.length_cons] at this
        omega
theorem goO_len (R : Nat → Option (List Nat)) : ∀ (g f : Nat) (st : List Nat) (root : Nat), g = f + st.length → (goO R g f st root).length ≤ g
  | 0, f, st, root, h => by unfold goO; simp
  | g + 1, f, st, root, h => by
    unfold goO
    by_cases h0 : f = 0
    · rw [if_pos h0]; omega
    · rw [if_neg h0]
      cases hd : dive R f st root with
      | none => simp
      | some p =>
        obtain ⟨st', f', r'⟩ := p
        have hs := dive_sum R f st root st' f' r' hd
        cases st' with
        | nil => simp
        | cons x t =>
          simp only [List.length_cons] at hs ⊢
          have := goO_len R g f' t (nodeG R x).right (by omega)
          omega
/-- what a range's body may turn: what E tells of the world; E grows by new blocks alone -/
structure KM (E : World → Nat → Prop) (A B : World) : Prop where
  kb : KB (E A) A B
  grow : ∀ k, E B k → E A k ∨ (A.heap.size ≤ k ∧ k < B.heap.size)
theorem KM.trans {E : World → Nat → Prop} {A B C : World} (h : KM E A B) (k : KM E B C) : KM E A C := by
  refine ⟨⟨Nat.le_trans h.kb.size k.kb.size, fun i o hi ho hn => ?_⟩, fun i hi => ?_⟩
  · have h1 := h.kb.same i o hi ho hn
    refine k.kb.same i o h1 ho (fun hB => ?_)
    rcases h.grow i hB with h2 | h2
    · exact hn h2
    · have := (Array.getElem?_eq_some_iff.1 hi).1; omega
  · rcases k.grow i hi with h1 | h1
    · rcases h.grow i h1 with h2 | h2
      · exact .inl h2
      · exact .inr ⟨h2.1, Nat.lt_of_lt_of_le h2.2 k.kb.size⟩
    · exact .inr ⟨Nat.le_trans h.kb.size h1.1, h1.2⟩
/-- what the iterator may turn: neither what lies below N, nor what E tells, nor what is no cells -/
structure Mv (N : Nat) (E : World → Nat → Prop) (A B : World) : Prop where
  os : B.os = A.os
  tape : B.tape = A.tape
  output : B.output = A.output
  size : A.heap.size ≤ B.heap.size
  keep : ∀ (k : Nat) (o : Obj), A.heap[k]? = some o → (k < N ∨ E A k ∨ o.isCells = false) → B.heap[k]? = some o
theorem Mv.below {N : Nat} {E : World → Nat → Prop} {A B : World} (h : Below A.heap.size A B) : Mv N E A B :=
  ⟨h.os, h.tape, h.output, h.size, fun k o hk _ => (h.block k (Array.getElem?_eq_some_iff.1 hk).1).trans hk⟩
theorem Mv.to_below {N : Nat} {E : World → Nat → Prop} {A B : World} {m : Nat} (h : Mv N E A B) (hm : m ≤ N) (hA : m ≤ A.heap.size) : Below m A B :=
  ⟨h.os, h.tape, h.output, h.size, fun k hk => by
    obtain ⟨o, ho⟩ : ∃ o, A.heap[k]? = some o := ⟨_, Array.getElem?_eq_getElem (by omega)⟩
    rw [ho]; exact h.keep k o ho (.inl (by omega))⟩
/-- what the iterator leans on -/
structure EReq (N n0 : Nat) (E : World → Nat → Prop) : Prop where
  mv : ∀ X Y, n0 ≤ X.heap.size → Mv N E X Y → ∀ k, E Y k → E X k
def hsV (l : List Nat) : List Value := l.map fun h => .int .u64 (h : Nat)
/-- the iterator's own state -/
structure InW (E : World → Nat → Prop) (N n0 s n B1 B2 base : Nat) (R : Nat → Option (List Nat)) (root : Nat) (v : Value) (st : List Nat) (W : World) : Prop where
  rd : Rd N W s R n
  b1 : W.cell? ⟨B1, 0, none⟩ = some (.pointer (some ⟨s, 0, none⟩))
  b2 : Boxed W B2 32 (.int .u64 (root : Nat))
  row : W.ownsRow base 32 1 v st.length (hsV st.reverse)
  nN : N ≤ n0
  bas : base ≤ W.heap.size
  big : n0 ≤ W.heap.size
  ok : ∀ k, E W k → N ≤ k ∧ k ≠ B1 ∧ k ≠ B2 ∧ v.ownBlock ≠ some k
  lt : ∀ k, E W k → k < W.heap.size
section
variable {E : World → Nat → Prop} {N n0 s n B1 B2 base : Nat} {R : Nat → Option (List Nat)} {root : Nat} {v : Value} {st : List Nat} {W W' : World}
theorem InW.below (h : InW E N n0 s n B1 B2 base R root v st W) (hE : EReq N n0 E) (hb : Below W.heap.size W W') : InW E N n0 s n B1 B2 base R root v st W' where
  rd := h.rd.below hb
  b1 := (hb.cell (p := ⟨B1, 0, none⟩) (cell_lt h.b1)).trans h.b1
  b2 := (hb.block _ h.b2.lt).trans h.b2
  row := ownsRow_kb (Cs := fun _ => False) h.row (KB.below hb) (fun _ h => h.elim)
  nN := h.nN
  bas := Nat.le_trans h.bas hb.size
  big := Nat.le_trans h.big hb.size
  ok := fun k hk => h.ok k (hE.mv W W' h.big (Mv.below hb) k hk)
  lt := fun k hk => Nat.lt_of_lt_of_le (h.lt k (hE.mv W W' h.big (Mv.below hb) k hk)) hb.size
theorem own_lt {w : World} {base : Nat} {e : TypeId} {v : Value} {n : Nat} {xs : List Value} (h : w.ownsRow base e 1 v n xs) {k : Nat} (hk : v.ownBlock = some k) : base ≤ k ∧ k < w.heap.size := by
  rcases h.2 with ⟨rfl, _⟩ | ⟨g, cap, cur, rfl, h2, h3, _⟩
  · simp [Value.ownBlock] at hk
  · have : g = k := by simpa [Value.ownBlock] using hk
    subst this
    exact ⟨h2, (Array.getElem?_eq_some_iff.1 h3).1⟩
theorem InW.step (h : InW E N n0 s n B1 B2 base R root v st W) (hk : KM E W W') : InW E N n0 s n B1 B2 base R root v st W' := by
  have hB2 : ¬ E W B2 := fun e => (h.ok _ e).2.2.1 rfl
  refine ⟨h.rd.kb hk.kb (fun k e => (h.ok k e).1), hk.kb.cell h.b1 (fun e => (h.ok _ e).2.1 rfl), hk.kb.same _ _ h.b2 (.inl rfl) hB2, ⟨h.row.1, ?_⟩, h.nN, Nat.le_trans h.bas hk.kb.size, Nat.le_trans h.big hk.kb.size, fun k e => ?_, fun k e => ?_⟩
  · rcases h.row.2 with h1 | ⟨g, cap, cur, h1, h2, h3, h4⟩
    · exact .inl h1
    · exact .inr ⟨g, cap, cur, h1, h2, hk.kb.same g _ h3 (.inl rfl) (fun e => (h.ok _ e).2.2.2 (by rw [h1]; rfl)), h4⟩
  · rcases hk.grow k e with h1 | h1
    · exact h.ok k h1
    · refine ⟨?_, fun e1 => ?_, fun e1 => ?_, fun e1 => ?_⟩
      · have h8 := h.nN; have h9 := h.big; omega
      · have := cell_lt h.b1; simp only at this; omega
      · have := h.b2.lt; omega
      · have := (own_lt h.row e1).2; omega
  · rcases hk.grow k e with h1 | h1
    · exact Nat.lt_of_lt_of_le (h.lt k h1) hk.kb.size
    · exact h1.2
theorem InW.setMv (h : InW E N n0 s n B1 B2 base R root v st W) (hB2 : N ≤ B2) (u : Value) : Mv N E W (W.setCell ⟨B2, 0, none⟩ u) :=
  ⟨rfl, rfl, rfl, by simp, fun k o hk hc => by
    have hne : k ≠ B2 := by
      rintro rfl
      rcases hc with h1 | h1 | h1
      · omega
      · exact (h.ok _ h1).2.2.1 rfl
      · rw [show W.heap[k]? = _ from h.b2] at hk
        cases hk
        cases h1
    exact (Below.heap_setCell W _ _ k hne).trans hk⟩
theorem InW.setRoot (h : InW E N n0 s n B1 B2 base R root v st W) (hE : EReq N n0 E) (hB2 : N ≤ B2) (h12 : B1 ≠ B2) (h2b : B2 < base) (r' : Nat) : InW E N n0 s n B1 B2 base R r' v st (W.setCell ⟨B2, 0, none⟩ (.int .u64 (r' : Nat))) where
  rd := h.rd.kb (Cs := fun k => k = B2) (KB.setCell (Cs := fun k => k = B2) (p := ⟨B2, 0, none⟩) rfl _) (fun k hk => by omega)
  b1 := (KB.setCell (Cs := fun k => k = B2) (p := ⟨B2, 0, none⟩) rfl _).cell h.b1 (by simpa using h12)
  b2 := h.b2.set _
  row := ownsRow_kb (Cs := fun k => k = B2) h.row (KB.setCell (Cs := fun k => k = B2) (p := ⟨B2, 0, none⟩) rfl _) (fun k hk => by omega)
  nN := h.nN
  bas := by simpa using h.bas
  big := by simpa using h.big
  ok := fun k hk => h.ok k (hE.mv _ _ h.big (h.setMv hB2 _) k hk)
  lt := fun k hk => by simpa using h.lt k (hE.mv _ _ h.big (h.setMv hB2 _) k hk)
theorem InW.pushMv (h : InW E N n0 s n B1 B2 base R root v st W) (hb : N ≤ base) {tmp : Obj} {w1 : World} (hgrow : (W.alloc tmp).grownBy w1 v.ownBlock) : Mv N E W w1 :=
  ⟨hgrow.os, hgrow.tape, hgrow.output, by have := hgrow.size; simp at this; omega, fun k o hk hc => by
    have hkl : k < W.heap.size := (Array.getElem?_eq_some_iff.1 hk).1
    refine (hgrow.block k (by simp; omega) (fun e => ?_)).trans ((Below.heap_alloc W tmp k hkl).trans hk)
    rcases hc with h1 | h1 | h1
    · have := (own_lt h.row e.symm).1; omega
    · exact (h.ok k h1).2.2.2 e.symm
    · rcases h.row.2 with ⟨rfl, _⟩ | ⟨g, cap, cur, rfl, h2, h3, _⟩
      · simp [Value.ownBlock] at e
      · have : k = g := by simpa [Value.ownBlock] using e
        subst this
        rw [h3] at hk
        cases hk
        cases h1⟩
theorem InW.push (h : InW E N n0 s n B1 B2 base R root v st W) (hE : EReq N n0 E) (hb : N ≤ base) (h2b : B2 < base) (h1b : B1 < base) {tmp : Obj} {w1 : World} {v' : Value} {x : Nat}
    (hown' : w1.ownsRow base 32 1 v' (st.length + 1) (hsV st.reverse ++ [.int .u64 (x : Nat)])) (hgrow : (W.alloc tmp).grownBy w1 v.ownBlock) (hblk : v'.ownBlock = v.ownBlock ∨ v'.ownBlock = some (W.alloc tmp).heap.size) :
    InW E N n0 s n B1 B2 base R root v' (x :: st) w1 := by
  have hm := h.pushMv hb hgrow
  have hkeep : ∀ k, k < W.heap.size → some k ≠ v.ownBlock → w1.heap[k]? = W.heap[k]? := fun k hk hne => (hgrow.block k (by simp; omega) hne).trans (Below.heap_alloc W tmp k hk)
  have hnot : ∀ k, k < base → some k ≠ v.ownBlock := fun k hk e => by have := (own_lt h.row e.symm).1; omega
  refine ⟨h.rd.kb (Cs := fun k => v.ownBlock = some k) ⟨hm.size, fun k o hk _ hn => (hkeep k (Array.getElem?_eq_some_iff.1 hk).1 (fun e => hn e.symm)).trans hk⟩ (fun k hk => Nat.le_trans hb (own_lt h.row hk).1), ?_, ?_, ?_, h.nN, Nat.le_trans h.bas hm.size, Nat.le_trans h.big hm.size, fun k hk => ?_, fun k hk => ?_⟩
  · exact (World.cell?_of_block (a := ⟨B1, 0, none⟩) (hkeep B1 (cell_lt h.b1) (hnot B1 h1b))).trans h.b1
  · exact (hkeep B2 h.b2.lt (hnot B2 h2b)).trans h.b2
  · rw [List.reverse_cons, hsV, List.map_append]
    exact hown'
  · have hkW := hE.mv _ _ h.big hm k hk
    obtain ⟨q1, q2, q3, q4⟩ := h.ok k hkW
    refine ⟨q1, q2, q3, fun e => ?_⟩
    rcases hblk with h1 | h1
    · exact q4 (h1.symm.trans e)
    · rw [h1] at e
      have := h.lt k hkW
      simp at e; omega
  · exact Nat.lt_of_lt_of_le (h.lt k (hE.mv _ _ h.big hm k hk)) hm.size
theorem InW.pop {g cap x : Nat} (h : InW E N n0 s n B1 B2 base R root (.slice (some ⟨g, 0, none⟩) (st.length + 1) cap) (x :: st) W) :
    InW E N n0 s n B1 B2 base R root (.slice (some ⟨g, 0, none⟩) st.length cap) st W ∧ W.cell? ⟨g, st.length, none⟩ = some (.int .u64 (x : Nat)) := by
  have hc : W.cell? ⟨g, st.length, none⟩ = some (.int .u64 (x : Nat)) := by
    have h1 := h.row.cells (g := g) rfl st.length (.int .u64 (x : Nat)) (by simp [hsV])
    have hadd : (⟨g, 0, none⟩ : Addr).add st.length = ⟨g, st.length, none⟩ := by unfold Addr.add; split <;> simp_all
    rwa [hadd] at h1
  refine ⟨⟨h.rd, h.b1, h.b2, ?_, h.nN, h.bas, h.big, h.ok, h.lt⟩, hc⟩
  refine ⟨by simp [hsV], .inr ?_⟩
  rcases h.row.2 with ⟨h1, _⟩ | ⟨g', cap', cur, h1, h2, h3, h4, h5, h6, h7⟩
  · cases h1
  · cases h1
    refine ⟨g, cap, cur, rfl, h2, h3, by simp only [List.length_cons] at h4; omega, h5, h6, ?_⟩
    have h8 : (cur.toList.take ((st.length + 1) * 1)).take (st.length * 1) = cur.toList.take (st.length * 1) := by rw [List.take_take, Nat.min_eq_left (by omega)]
    simp only [List.length_cons] at h7
    rw [← h8, h7, hsV, List.reverse_cons, List.map_append, List.take_append_of_le_length (by simp), List.take_of_length_le (by simp)]
    rfl
end
end Go.Proofs.YtjpmlneihbckpaaGreatDoor
/- walk.in: the walk of the iterator. -/
set_option linter.unusedVariables false
set_option linter.unusedSimpArgs false
namespace Go.Proofs.YtjpmlneihbckpaaGreatDoor
open Go.RowKit Go.Shelf
attribute [local go_sem] Oper.semAt_some wide_fn
theorem Tryz.under_hs : Tryz.prog.underlying 49 = some (.slice 32) := by kernel_rfl
theorem Tryz.info_h : (Tryz.prog.info? 32).map (fun i => (i.zero, i.size, i.bytes)) = some (some (.int .u64 0), 1, 8) := by kernel_rfl
theorem goO_zero (R : Nat → Option (List Nat)) (st : List Nat) (root : Nat) : goO R st.length 0 st root = st := by
  cases st with
  | nil => rfl
  | cons x t => show goO R (t.length + 1) 0 (x :: t) root = _; rw [goO, if_pos rfl]
theorem row_cap {w : World} {base : Nat} {e : TypeId} {g n c : Nat} {xs : List Value} (h : w.ownsRow base e 1 (.slice (some ⟨g, 0, none⟩) n c) n xs) : n ≤ c := by
  rcases h.2 with ⟨h1, _⟩ | ⟨g', cap', cur, h1, h2, h3, h4, _⟩
  · cases h1
  · cases h1; exact h4
def sliceLen : Value → Nat
  | .slice _ n _ => n
  | _ => 0
set_option maxRecDepth 100000 in
theorem in_calls (s x : Nat) (w : World) : Calls Tryz.prog 65 #[.pointer (some ⟨s, 0, none⟩), .int .u64 (x : Nat)] w fun e w' => e = .returned (.func (.func 95) #[] #[.pointer (some ⟨w.heap.size, 0, none⟩), .pointer (some ⟨w.heap.size + 1, 0, none⟩)]) ∧ w' = (w.alloc (.cells #[.pointer (some ⟨s, 0, none⟩)] 25)).alloc (.cells #[.int .u64 (x : Nat)] 32) := by
  go_enter Tryz.func65, Tryz.ntmps65
  go_wp2
  go_ret
  exact ⟨rfl, rfl⟩
set_option maxHeartbeats 4000000 in
set_option maxRecDepth 100000 in
theorem in_stops {w : World} {s N n B1 B2 root : Nat} {R : Nat → Option (List Nat)} {L : List Nat} (h : Rd N w s R n) (hL : L = inR R n root) (hB1 : w.cell? ⟨B1, 0, none⟩ = some (.pointer (some ⟨s, 0, none⟩))) (hB2 : Boxed w B2 32 (.int .u64 (root : Nat)))
    (cN : N ≤ B2) (c12 : B1 ≠ B2) (hroot : root < 18446744073709551616) (E : World → Nat → Prop) (hE : EReq N w.heap.size E) (c0 : ∀ k, E w k → N ≤ k ∧ k ≠ B1 ∧ k ≠ B2 ∧ k < w.heap.size) :
    SeqMv Fence.wide 8 Tryz.prog 95 #[.pointer (some ⟨B1, 0, none⟩), .pointer (some ⟨B2, 0, none⟩)] (fun x : {y : Nat // y ∈ L} => #[.int .u64 (x.1 : Nat), (nodeG R x.1).v]) (KM E) (Mv N E) (fun xs => xs.map (·.1) = L) (fun pre => ∃ t, L = pre.map (·.1) ++ t) L.length w := fun l J Jx W hBW hJ hJx hY h0 => by
  obtain ⟨i0, hi, hz0, hz1, hz2⟩ := info_parts Tryz.info_h
  have hn := h.le
  have hb1 := (hBW.cell (p := ⟨B1, 0, none⟩) (cell_lt hB1)).trans hB1
  have hb2 : Boxed W B2 32 (.int .u64 (root : Nat)) := (hBW.block _ hB2.lt).trans hB2
  have hszW := hBW.size
  have hB1lt : B1 < W.heap.size := cell_lt (a := ⟨B1, 0, none⟩) hb1
  have hB2lt : B2 < W.heap.size := hb2.lt
  have hN0 : N ≤ w.heap.size := by have := hB2.lt; omega
  have HW : Hid (InW E N w.heap.size s n B1 B2 W.heap.size R root (.slice none 0 0) [] W) := Lib.hid ⟨h.below hBW, hb1, hb2, World.ownsRow_nil _ _ _ _, hN0, Nat.le_refl _, hszW,
    fun k hk => by
      obtain ⟨q1, q2, q3, q4⟩ := c0 k (hE.mv w W (Nat.le_refl _) (Mv.below hBW) k hk)
      exact ⟨q1, q2, q3, by simp [Value.ownBlock]⟩,
    fun k hk => Nat.lt_of_lt_of_le (c0 k (hE.mv w W (Nat.le_refl _) (Mv.below hBW) k hk)).2.2.2 hszW⟩
  have hLi := limit_at HW.out.rd
  obtain ⟨m, hm⟩ : ∃ m, m = n / 8 + 1 := ⟨_, rfl⟩
  rw [← hm] at hLi
  have hm1 : m ≤ 32769 := by omega
  have hLiH := Lib.hid ((callsIn_wide (n := 7)).2 hLi)
  have hL0 : Hid (L = ([] : List {y : Nat // y ∈ L}).map (·.1) ++ goO R ((m - 0) + ([] : List Nat).length) (m - 0) [] root) := Lib.hid (by rw [hL, inR, ← hm]; rfl)
  have hEH := Lib.hid hE
  have hJH := Lib.hid hJ
  have hYH := Lib.hid hY
  have J0 := Lib.hid h0
  have hNb : N ≤ W.heap.size := by omega
  clear hLi hm hL hE hJ hY h0 c0 hBW h hB1 hB2 hb1 hb2 hn
  generalize hn0 : w.heap.size = n0 at *
  clear hn0
  refine callsIn_of_wp Tryz.func95 rfl trivial ?_ rfl
  simp only [Tryz.ntmps95, List.size_toArray, List.length_cons, List.length_nil, Nat.reduceAdd, Nat.reduceSub, Array.replicate_succ, Array.replicate_zero, List.push_toArray, List.append_toArray, List.nil_append, List.cons_append]
  have x1 := HW.out.b1
  gi_wp2_with fail
  refine hLiH.out.mono ?_
  rintro e w1 ⟨rfl, hb⟩
  have H1 := Lib.hid (HW.out.below hEH.out hb)
  have J1 := Lib.hid (hJH.out _ _ _ J0.out (Mv.below hb))
  clear hb hLiH x1 HW J0
  generalize W.heap.size = base at *
  gi_wp2_with fail
  gi_loopw [4, 6] (fun sv kv wr => ∃ (pre : List {y : Nat // y ∈ L}) (st : List Nat) (r k : Nat), k ≤ m ∧ (m - k) + st.length ≤ m ∧ kv = .int .i64 k ∧ (∃ A c, sv = .slice A st.length c) ∧ r < 18446744073709551616 ∧ Hid (InW E N n0 s n B1 B2 base R r sv st wr) ∧ Hid (J pre wr) ∧ Hid (L = pre.map (·.1) ++ goO R ((m - k) + st.length) (m - k) st r) ∧ Hid (∀ y ∈ st, y < 18446744073709551616)) (fun sv kv _ => (m - (intOf kv).toNat) + sliceLen sv)
  case atStart => exact ⟨[], [], root, 0, by omega, by simp, rfl, ⟨_, _, rfl⟩, hroot, H1, J1, hL0, Lib.hid (by simp)⟩
  case round =>
    obtain ⟨pre, st, r, k, hk, hks, rfl, ⟨A, c, rfl⟩, hr, H, hj, hgo, hst⟩ := hrel
    by_cases hlt : k < m
    · have dk : decide ((k : Int) < (m : Int)) = true := by simp; omega
      gi_wp2_with fail
      gi_loopw [4, 6] (fun sv kv wi => ∃ (st' : List Nat) (r' k' : Nat), k ≤ k' ∧ k' ≤ m ∧ kv = .int .i64 k' ∧ (∃ A c, sv = .slice A st'.length c) ∧ r' < 18446744073709551616 ∧ Hid (InW E N n0 s n B1 B2 base R r' sv st' wi) ∧ Hid (J pre wi) ∧ Hid (dive R (m - k) st r = dive R (m - k') st' r') ∧ Hid (∀ y ∈ st', y < 18446744073709551616) ∧ (m - k') + st'.length = (m - k) + st.length) (fun sv kv _ => m - (intOf kv).toNat)
      case atStart => exact ⟨st, r, k, by omega, hk, rfl, ⟨_, _, rfl⟩, hr, H, hj, Lib.hid rfl, hst, rfl⟩
      case round =>
        obtain ⟨st', r', k', hkk, hk', rfl, ⟨A', c', rfl⟩, hr', H', hj', hdv, hst', hsum⟩ := hrel
        have xb1 := H'.out.b1
        have xb2 := H'.out.b2.cell
        have hlen3 : st'.length ≤ 32769 := by omega
        by_cases hgo2 : r' ≠ 0 ∧ k' < m
        · obtain ⟨hr0, hk2⟩ := hgo2
          have dr : ((r' : Int) != 0) = true := by simp; omega
          have dk2 : decide ((k' : Int) < (m : Int)) = true := by simp; omega
          obtain ⟨f, hf⟩ : ∃ f, m - k' = f + 1 := ⟨m - k' - 1, by omega⟩
          obtain ⟨nd, hnd⟩ : ∃ nd, nodeG R r' = nd := ⟨_, rfl⟩
          obtain ⟨z, hz⟩ : ∃ z, nodeE R r' = z := ⟨_, rfl⟩
          have hz10 : z < 10 := hz ▸ nodeE_lt R r'
          have hok := H'.out.rd.nodeG r'
          rw [hnd] at hok
          have hG := Lib.hid ((callsIn_wide (n := 7)).2 (nget_lit H'.out.rd r' hr' nd hnd z hz))
          have hdv2 : dive R (m - k) st r = if z ≠ 0 then none else dive R f (r' :: st') nd.left := by
            rw [hdv.out, hf, dive, if_neg hr0, hz, hnd]
          have hdv2H := Lib.hid hdv2
          have hl := hok.left
          clear hnd hz hok hdv2
          by_cases hz0 : z = 0
          · subst hz0
            gi_wp2_with fail
            refine hG.out.mono ?_
            rintro e w2 ⟨rfl, hb2⟩
            have hzz := hb2.size
            have hb3 : Below wr.heap.size wr (w2.alloc (Obj.cells #[Value.int IntKind.u64 (nd.key : Nat), Value.int IntKind.u64 (nd.val : Nat), Value.int IntKind.u64 (nd.left : Nat), Value.int IntKind.u64 (nd.right : Nat), Value.int IntKind.u64 (nd.mark : Nat), Value.int IntKind.u64 (nd.size : Nat)] 53)) := hb2.alloc hzz _
            have n2 : (w2.alloc (Obj.cells #[Value.int IntKind.u64 (nd.key : Nat), Value.int IntKind.u64 (nd.val : Nat), Value.int IntKind.u64 (nd.left : Nat), Value.int IntKind.u64 (nd.right : Nat), Value.int IntKind.u64 (nd.mark : Nat), Value.int IntKind.u64 (nd.size : Nat)] 53)).cell? ⟨w2.heap.size, 2, none⟩ = some (.int .u64 (nd.left : Nat)) := by go_simp
            have H3 := Lib.hid (H'.out.below hEH.out hb3)
            have J3 := Lib.hid (hJH.out _ _ _ hj'.out (Mv.below hb3))
            have y2 := H3.out.b2.cell
            have hown0 := fun k (hk : (Value.slice A' st'.length c').ownBlock = some k) => own_lt H'.out.row hk
            have hbz : base ≤ (w2.alloc (Obj.cells #[Value.int IntKind.u64 (nd.key : Nat), Value.int IntKind.u64 (nd.val : Nat), Value.int IntKind.u64 (nd.left : Nat), Value.int IntKind.u64 (nd.right : Nat), Value.int IntKind.u64 (nd.mark : Nat), Value.int IntKind.u64 (nd.size : Nat)] 53)).heap.size := H3.out.bas
            have hrowH := Lib.hid H3.out.row
            have hnb : Hid (some w2.heap.size ≠ (Value.slice A' st'.length c').ownBlock) := Lib.hid (fun e => by have := (hown0 _ e.symm).2; omega)
            have hszA : (w2.alloc (Obj.cells #[Value.int IntKind.u64 (nd.key : Nat), Value.int IntKind.u64 (nd.val : Nat), Value.int IntKind.u64 (nd.left : Nat), Value.int IntKind.u64 (nd.right : Nat), Value.int IntKind.u64 (nd.mark : Nat), Value.int IntKind.u64 (nd.size : Nat)] 53)).heap.size = w2.heap.size + 1 := by simp
            clear hb2 hG hb3 xb1 xb2 hown0
            gi_wp2_with (gi_at_builtin; go_must (generalize (w2.alloc (Obj.cells #[Value.int IntKind.u64 (nd.key : Nat), Value.int IntKind.u64 (nd.val : Nat), Value.int IntKind.u64 (nd.left : Nat), Value.int IntKind.u64 (nd.right : Nat), Value.int IntKind.u64 (nd.mark : Nat), Value.int IntKind.u64 (nd.size : Nat)] 53)) = W3 at *; rw [← hszA]; refine wpListIn_append_own_at _ rfl _ _ 49 rfl base 32 i0 (.int .u64 0) 1 8 Tryz.under_hs hi hz0 hz1 hz2 rfl (by decide) _ _ _ rfl (hrowH.out.alloc _) ⟨W3.heap.size, 0, none⟩ 1 1 [.int .u64 (r' : Nat)] rfl rfl (cell_one_new _ _ _) (by simp [Value.oneCell']) (by unfold maxLen; omega) (by omega) (by simp; omega) ?_; intro v' w5 hown' hgrow _ hblk; obtain ⟨g', cap', rfl⟩ := ownsRow_succ hown'; have H5 := H3.out.push hEH.out hNb hB2lt hB1lt hown' hgrow hblk; have hm5 := H3.out.pushMv hNb hgrow; have y5 := H5.b2.cell; have f5 := H5.b2.frozen; have n5 : w5.cell? ⟨w2.heap.size, 2, none⟩ = some (.int .u64 (nd.left : Nat)) := (World.cell?_of_block ((hgrow.block w2.heap.size (by simp; omega) hnb.out).trans (Below.heap_alloc _ _ _ (by omega)))).trans n2))
            have H6 := Lib.hid (H5.setRoot hEH.out cN c12 hB2lt nd.left)
            have J6 := Lib.hid (hJH.out _ _ _ (hJH.out _ _ _ J3.out hm5) (H5.setMv cN (.int .u64 (nd.left : Nat))))
            clear H5 hm5 y5 f5 n5 n2 hown' hgrow hblk y2
            go_roundw
            case rel => exact ⟨r' :: st', nd.left, k' + 1, by omega, by omega, by go_num, ⟨_, _, rfl⟩, hl, H6, J6, Lib.hid (by rw [hdv2H.out, if_neg (by simp), show m - (k' + 1) = f by omega]), Lib.hid (by intro y hy; rcases List.mem_cons.1 hy with rfl | hy; exact hr'; exact hst'.out y hy), by simp only [List.length_cons]; omega⟩
            case measure => simp [intOf]; omega
          · have d : ((z : Int) != 0) = true := by simp; omega
            gi_wp2_with fail
            refine hG.out.mono ?_
            rintro e w2 ⟨rfl, hb2⟩
            have hzz := hb2.size
            have hb3 : Below wr.heap.size wr (w2.alloc (Obj.cells #[Value.int IntKind.u64 (nd.key : Nat), Value.int IntKind.u64 (nd.val : Nat), Value.int IntKind.u64 (nd.left : Nat), Value.int IntKind.u64 (nd.right : Nat), Value.int IntKind.u64 (nd.mark : Nat), Value.int IntKind.u64 (nd.size : Nat)] 53)) := hb2.alloc hzz _
            have J3 := Lib.hid (hJH.out _ _ _ hj'.out (Mv.below hb3))
            have hfin : Hid (pre.map (·.1) = L) := Lib.hid (by
              obtain ⟨g, hg⟩ : ∃ g, (m - k) + st.length = g + 1 := ⟨m - k + st.length - 1, by omega⟩
              have h9 := hgo.out
              rw [hg, goO, if_neg (by omega), hdv2H.out, if_pos hz0] at h9
              simpa using h9.symm)
            clear hb2 hG hb3
            gi_wp2
            refine bodyPost_ret (results_none rfl _ _ _) rfl ?_
            exact ⟨⟨_, rfl⟩, .inl ⟨pre, hfin.out, J3.out⟩⟩
        · have hdv3 : ∃ z, dive R (m - k) st r = some (st', m - k', z) := by
            rw [hdv.out]
            by_cases e : k' = m
            · subst e; rw [Nat.sub_self]; exact ⟨r', rfl⟩
            · obtain ⟨f, hf⟩ : ∃ f, m - k' = f + 1 := ⟨m - k' - 1, by omega⟩
              have hr0 : r' = 0 := by
                by_cases h9 : r' = 0
                · exact h9
                · exact absurd ⟨h9, by omega⟩ hgo2
              rw [hf, dive, if_pos hr0]
              exact ⟨0, rfl⟩
          obtain ⟨g, hg⟩ : ∃ g, (m - k) + st.length = g + 1 := ⟨m - k + st.length - 1, by omega⟩
          have hgo3 := hgo.out
          rw [hg, goO, if_neg (by omega)] at hgo3
          obtain ⟨zz, hzz⟩ := hdv3
          rw [hzz] at hgo3
          have hex : r' = 0 ∨ (r' ≠ 0 ∧ k' = m) := by
            by_cases h9 : r' = 0
            · exact .inl h9
            · exact .inr ⟨h9, by by_cases h8 : k' = m; exact h8; exact absurd ⟨h9, by omega⟩ hgo2⟩
          clear hzz hgo2 hdv hgo
          cases st' with
          | nil =>
            have hfin : Hid (pre.map (·.1) = L) := Lib.hid (by simpa using hgo3.symm)
            clear hgo3
            rcases hex with hr0 | ⟨hr0, hkm⟩
            · subst hr0
              gi_wp2
              refine bodyPost_ret (results_none rfl _ _ _) rfl ?_
              exact ⟨⟨_, rfl⟩, .inl ⟨pre, hfin.out, hj'.out⟩⟩
            · have dr : ((r' : Int) != 0) = true := by simp; omega
              subst hkm
              gi_wp2
              refine bodyPost_ret (results_none rfl _ _ _) rfl ?_
              exact ⟨⟨_, rfl⟩, .inl ⟨pre, hfin.out, hj'.out⟩⟩
          | cons x t =>
            simp only at hgo3
            obtain ⟨g', cap', hv⟩ := ownsRow_succ H'.out.row
            simp only [Value.slice.injEq] at hv
            obtain ⟨rfl, _, rfl⟩ := hv
            obtain ⟨H4, hcx⟩ := H'.out.pop
            have hcap := row_cap H'.out.row
            simp only [List.length_cons] at hcap
            have H4H := Lib.hid H4
            have hx64 := hst'.out x (by simp)
            have hstt : Hid (∀ y ∈ t, y < 18446744073709551616) := Lib.hid (fun y hy => hst'.out y (by simp [hy]))
            have hxL : x ∈ L := by rw [hgo3]; simp
            have hpl : pre.length < L.length := by have h9 := congrArg List.length hgo3; simp only [List.length_append, List.length_map, List.length_cons] at h9; omega
            have hmapH : Hid ((pre ++ [(⟨x, hxL⟩ : {y : Nat // y ∈ L})]).map (fun y => y.1) = pre.map (fun y => y.1) ++ [x]) := Lib.hid (by rw [List.map_append]; rfl)
            have hgo4 : Hid (L = (pre ++ [(⟨x, hxL⟩ : {y : Nat // y ∈ L})]).map (fun y => y.1) ++ goO R g (m - k') t (nodeG R x).right) := Lib.hid (by rw [hmapH.out, List.append_assoc]; exact hgo3)
            have hgt : g = (m - k') + t.length := by simp only [List.length_cons] at hsum; omega
            obtain ⟨nd, hnd⟩ : ∃ nd, nodeG R x = nd := ⟨_, rfl⟩
            obtain ⟨z, hz⟩ : ∃ z, nodeE R x = z := ⟨_, rfl⟩
            have hok := H4.rd.nodeG x
            rw [hnd] at hok
            have hrt := hok.right
            have hG := Lib.hid ((callsIn_wide (n := 7)).2 (nget_lit H4.rd x hx64 nd hnd z hz))
            have hYx := Lib.hid (fun W hw => hYH.out pre ⟨x, hxL⟩ W hw hpl)
            simp only [hnd] at hgo4 hYx
            unfold Nd.v at hYx
            have hlx : ((t.length : Int) + 1 == 0) = false := by simp; omega
            clear hgo3 hnd hz hok H4 H' H1 hpl
            rcases hex with hr0 | ⟨hr0, hkm⟩
            · have dr : ((r' : Int) != 0) = false := by simp; omega
              gi_wp2_with fail
              refine hG.out.mono ?_
              rintro e w2 ⟨rfl, hb2⟩
              have hzz := hb2.size
              have hb3 : Below wr.heap.size wr (w2.alloc (Obj.cells #[Value.int IntKind.u64 (nd.key : Nat), Value.int IntKind.u64 (nd.val : Nat), Value.int IntKind.u64 (nd.left : Nat), Value.int IntKind.u64 (nd.right : Nat), Value.int IntKind.u64 (nd.mark : Nat), Value.int IntKind.u64 (nd.size : Nat)] 53)) := hb2.alloc hzz _
              have H5 := Lib.hid (H4H.out.below hEH.out hb3)
              have J5 := Lib.hid (hJH.out _ _ _ hj'.out (Mv.below hb3))
              obtain ⟨fn, tmps, assign, body, hy, hRr⟩ := hYx.out _ J5.out
              have n3 : (w2.alloc (Obj.cells #[Value.int IntKind.u64 (nd.key : Nat), Value.int IntKind.u64 (nd.val : Nat), Value.int IntKind.u64 (nd.left : Nat), Value.int IntKind.u64 (nd.right : Nat), Value.int IntKind.u64 (nd.mark : Nat), Value.int IntKind.u64 (nd.size : Nat)] 53)).cell? ⟨w2.heap.size, 3, none⟩ = some (.int .u64 (nd.right : Nat)) := by go_simp
              have hE2 : Hid (¬ E (w2.alloc (Obj.cells #[Value.int IntKind.u64 (nd.key : Nat), Value.int IntKind.u64 (nd.val : Nat), Value.int IntKind.u64 (nd.left : Nat), Value.int IntKind.u64 (nd.right : Nat), Value.int IntKind.u64 (nd.mark : Nat), Value.int IntKind.u64 (nd.size : Nat)] 53)) w2.heap.size) := Lib.hid (fun e => by
                have h8 := H4H.out.lt _ (hEH.out.mv _ _ H4H.out.big (Mv.below hb3) _ e)
                omega)
              have hRH2 := Lib.hid hRr
              clear hRr hb2 hb3 hG hYx xb1 xb2
              gi_wp2_with fail
              generalize (w2.alloc (Obj.cells #[Value.int IntKind.u64 (nd.key : Nat), Value.int IntKind.u64 (nd.val : Nat), Value.int IntKind.u64 (nd.left : Nat), Value.int IntKind.u64 (nd.right : Nat), Value.int IntKind.u64 (nd.mark : Nat), Value.int IntKind.u64 (nd.size : Nat)] 53)) = W3 at *
              refine (hRH2.out).mono ?_
              rintro e W2 (⟨rfl, hJ2, hK2⟩ | ⟨rfl, hJx2⟩)
              · have H6 := H5.out.step hK2
                have c3 := hK2.kb.cell n3 hE2.out
                have y6 := H6.b2.cell
                have f6 := H6.b2.frozen
                have H7 := Lib.hid (H6.setRoot hEH.out cN c12 hB2lt nd.right)
                have J7 := Lib.hid (hJH.out _ _ _ hJ2 (H6.setMv cN (.int .u64 (nd.right : Nat))))
                clear H6 hJ2 hK2 n3 hE2 hRH2 hy
                gi_wp2
                go_roundw
                case rel => exact ⟨pre ++ [⟨x, hxL⟩], t, nd.right, k', hk', by simp only [List.length_cons] at hsum; omega, by first | rfl | rw [hkm], ⟨_, _, rfl⟩, hrt, H7, J7, Lib.hid (by rw [← hgt]; exact hgo4.out), hstt⟩
                case measure => simp [intOf, sliceLen]; simp only [List.length_cons] at hsum; omega
              · have hJx4 := Lib.hid hJx2
                clear hJx2
                gi_wp2
                refine bodyPost_ret (results_none rfl _ _ _) rfl ?_
                exact ⟨⟨_, rfl⟩, .inr ⟨_, ⟨goO R g (m - k') t nd.right, hgo4.out⟩, hJx4.out⟩⟩
            · have dr : ((r' : Int) != 0) = true := by simp; omega
              have dk2 : decide ((k' : Int) < (m : Int)) = false := by simp; omega
              gi_wp2_with fail
              refine hG.out.mono ?_
              rintro e w2 ⟨rfl, hb2⟩
              have hzz := hb2.size
              have hb3 : Below wr.heap.size wr (w2.alloc (Obj.cells #[Value.int IntKind.u64 (nd.key : Nat), Value.int IntKind.u64 (nd.val : Nat), Value.int IntKind.u64 (nd.left : Nat), Value.int IntKind.u64 (nd.right : Nat), Value.int IntKind.u64 (nd.mark : Nat), Value.int IntKind.u64 (nd.size : Nat)] 53)) := hb2.alloc hzz _
              have H5 := Lib.hid (H4H.out.below hEH.out hb3)
              have J5 := Lib.hid (hJH.out _ _ _ hj'.out (Mv.below hb3))
              obtain ⟨fn, tmps, assign, body, hy, hRr⟩ := hYx.out _ J5.out
              have n3 : (w2.alloc (Obj.cells #[Value.int IntKind.u64 (nd.key : Nat), Value.int IntKind.u64 (nd.val : Nat), Value.int IntKind.u64 (nd.left : Nat), Value.int IntKind.u64 (nd.right : Nat), Value.int IntKind.u64 (nd.mark : Nat), Value.int IntKind.u64 (nd.size : Nat)] 53)).cell? ⟨w2.heap.size, 3, none⟩ = some (.int .u64 (nd.right : Nat)) := by go_simp
              have hE2 : Hid (¬ E (w2.alloc (Obj.cells #[Value.int IntKind.u64 (nd.key : Nat), Value.int IntKind.u64 (nd.val : Nat), Value.int IntKind.u64 (nd.left : Nat), Value.int IntKind.u64 (nd.right : Nat), Value.int IntKind.u64 (nd.mark : Nat), Value.int IntKind.u64 (nd.size : Nat)] 53)) w2.heap.size) := Lib.hid (fun e => by
                have h8 := H4H.out.lt _ (hEH.out.mv _ _ H4H.out.big (Mv.below hb3) _ e)
                omega)
              have hRH2 := Lib.hid hRr
              clear hRr hb2 hb3 hG hYx xb1 xb2
              gi_wp2_with fail
              generalize (w2.alloc (Obj.cells #[Value.int IntKind.u64 (nd.key : Nat), Value.int IntKind.u64 (nd.val : Nat), Value.int IntKind.u64 (nd.left : Nat), Value.int IntKind.u64 (nd.right : Nat), Value.int IntKind.u64 (nd.mark : Nat), Value.int IntKind.u64 (nd.size : Nat)] 53)) = W3 at *
              refine (hRH2.out).mono ?_
              rintro e W2 (⟨rfl, hJ2, hK2⟩ | ⟨rfl, hJx2⟩)
              · have H6 := H5.out.step hK2
                have c3 := hK2.kb.cell n3 hE2.out
                have y6 := H6.b2.cell
                have f6 := H6.b2.frozen
                have H7 := Lib.hid (H6.setRoot hEH.out cN c12 hB2lt nd.right)
                have J7 := Lib.hid (hJH.out _ _ _ hJ2 (H6.setMv cN (.int .u64 (nd.right : Nat))))
                clear H6 hJ2 hK2 n3 hE2 hRH2 hy
                gi_wp2
                go_roundw
                case rel => exact ⟨pre ++ [⟨x, hxL⟩], t, nd.right, k', hk', by simp only [List.length_cons] at hsum; omega, by first | rfl | rw [hkm], ⟨_, _, rfl⟩, hrt, H7, J7, Lib.hid (by rw [← hgt]; exact hgo4.out), hstt⟩
                case measure => simp [intOf, sliceLen]; simp only [List.length_cons] at hsum; omega
              · have hJx4 := Lib.hid hJx2
                clear hJx2
                gi_wp2
                refine bodyPost_ret (results_none rfl _ _ _) rfl ?_
                exact ⟨⟨_, rfl⟩, .inr ⟨_, ⟨goO R g (m - k') t nd.right, hgo4.out⟩, hJx4.out⟩⟩
    · obtain rfl : m = k := by omega
      have dk : decide ((m : Int) < (m : Int)) = false := by simp
      have hgo2 : Hid (L = pre.map (·.1) ++ st) := Lib.hid (by
        have h9 := hgo.out
        rw [Nat.sub_self, Nat.zero_add, goO_zero] at h9
        exact h9)
      clear hgo H1
      gi_wp2_with fail
      gi_loopw [4] (fun sv wr => ∃ (pre : List {y : Nat // y ∈ L}) (st : List Nat) (r : Nat), st.length ≤ m ∧ (∃ A c, sv = .slice A st.length c) ∧ Hid (InW E N n0 s n B1 B2 base R r sv st wr) ∧ Hid (J pre wr) ∧ Hid (L = pre.map (·.1) ++ st) ∧ Hid (∀ y ∈ st, y < 18446744073709551616)) (fun sv _ => sliceLen sv)
      case atStart => exact ⟨pre, st, r, by omega, ⟨_, _, rfl⟩, H, hj, hgo2, hst⟩
      case round =>
        clear H hj hgo2 hst
        obtain ⟨pre, st, r, hsl, ⟨A, c, rfl⟩, H', hj', hgo3, hst'⟩ := hrel
        have xb1 := H'.out.b1
        cases st with
        | nil =>
          have hfin : Hid (pre.map (·.1) = L) := Lib.hid (by simpa using hgo3.out.symm)
          gi_wp2
          go_end0
          exact ⟨⟨_, rfl⟩, .inl ⟨pre, hfin.out, hj'.out⟩⟩
        | cons x t =>
          obtain ⟨g', cap', hv⟩ := ownsRow_succ H'.out.row
          simp only [Value.slice.injEq] at hv
          obtain ⟨rfl, _, rfl⟩ := hv
          obtain ⟨H4, hcx⟩ := H'.out.pop
          have hcap := row_cap H'.out.row
          simp only [List.length_cons] at hcap hsl
          have H4H := Lib.hid H4
          have hx64 := hst'.out x (by simp)
          have hstt : Hid (∀ y ∈ t, y < 18446744073709551616) := Lib.hid (fun y hy => hst'.out y (by simp [hy]))
          have hxL : x ∈ L := by rw [hgo3.out]; simp
          have hpl : pre.length < L.length := by have h9 := congrArg List.length hgo3.out; simp only [List.length_append, List.length_map, List.length_cons] at h9; omega
          have hmapH : Hid ((pre ++ [(⟨x, hxL⟩ : {y : Nat // y ∈ L})]).map (fun y => y.1) = pre.map (fun y => y.1) ++ [x]) := Lib.hid (by rw [List.map_append]; rfl)
          have hgo4 : Hid (L = (pre ++ [(⟨x, hxL⟩ : {y : Nat // y ∈ L})]).map (fun y => y.1) ++ t) := Lib.hid (by rw [hmapH.out, List.append_assoc]; exact hgo3.out)
          obtain ⟨nd, hnd⟩ : ∃ nd, nodeG R x = nd := ⟨_, rfl⟩
          obtain ⟨z, hz⟩ : ∃ z, nodeE R x = z := ⟨_, rfl⟩
          have hG := Lib.hid ((callsIn_wide (n := 7)).2 (nget_lit H4.rd x hx64 nd hnd z hz))
          have hYx := Lib.hid (fun W hw => hYH.out pre ⟨x, hxL⟩ W hw hpl)
          simp only [hnd] at hYx
          unfold Nd.v at hYx
          have hlx : decide ((0 : Int) < (t.length : Int) + 1) = true := by simp
          clear hnd hz H4 H' hpl hgo3
          gi_wp2_with fail
          refine hG.out.mono ?_
          rintro e w2 ⟨rfl, hb2⟩
          have hzz := hb2.size
          have hb3 : Below wr.heap.size wr (w2.alloc (Obj.cells #[Value.int IntKind.u64 (nd.key : Nat), Value.int IntKind.u64 (nd.val : Nat), Value.int IntKind.u64 (nd.left : Nat), Value.int IntKind.u64 (nd.right : Nat), Value.int IntKind.u64 (nd.mark : Nat), Value.int IntKind.u64 (nd.size : Nat)] 53)) := hb2.alloc hzz _
          have H5 := Lib.hid (H4H.out.below hEH.out hb3)
          have J5 := Lib.hid (hJH.out _ _ _ hj'.out (Mv.below hb3))
          obtain ⟨fn, tmps, assign, body, hy, hRr⟩ := hYx.out _ J5.out
          have hRH2 := Lib.hid hRr
          clear hRr hb2 hb3 hG hYx xb1
          gi_wp2_with fail
          generalize (w2.alloc (Obj.cells #[Value.int IntKind.u64 (nd.key : Nat), Value.int IntKind.u64 (nd.val : Nat), Value.int IntKind.u64 (nd.left : Nat), Value.int IntKind.u64 (nd.right : Nat), Value.int IntKind.u64 (nd.mark : Nat), Value.int IntKind.u64 (nd.size : Nat)] 53)) = W3 at *
          refine (hRH2.out).mono ?_
          rintro e W2 (⟨rfl, hJ2, hK2⟩ | ⟨rfl, hJx2⟩)
          · have H6 := Lib.hid (H5.out.step hK2)
            have J7 := Lib.hid hJ2
            clear hJ2 hK2 hRH2 hy
            gi_wp2
            go_roundw
            case rel => exact ⟨pre ++ [⟨x, hxL⟩], t, r, by omega, ⟨_, _, rfl⟩, H6, J7, hgo4, hstt⟩
            case measure => simp [sliceLen]
          · have hJx4 := Lib.hid hJx2
            clear hJx2
            gi_wp2
            refine bodyPost_ret (results_none rfl _ _ _) rfl ?_
            exact ⟨⟨_, rfl⟩, .inr ⟨_, ⟨t, hgo4.out⟩, hJx4.out⟩⟩
end Go.Proofs.YtjpmlneihbckpaaGreatDoor
/- walk.List. -/
set_option linter.unusedVariables false
set_option linter.unusedSimpArgs false
namespace Go.Proofs.YtjpmlneihbckpaaGreatDoor
open Go.RowKit Go.Shelf
attribute [local go_sem] Oper.semAt_some wide_fn
/-- the box of a row, and that row's block -/
def OutB (B : Nat) (W : World) (k : Nat) : Prop := k = B ∨ ∃ m c, W.cell? ⟨B, 0, none⟩ = some (.slice (some ⟨k, 0, none⟩) m c)
theorem outB_cell {B : Nat} {X Y : World} (h : Y.cell? ⟨B, 0, none⟩ = X.cell? ⟨B, 0, none⟩) (k : Nat) (hk : OutB B Y k) : OutB B X k := by
  rcases hk with h1 | ⟨m, c, h1⟩
  · exact .inl h1
  · exact .inr ⟨m, c, h.symm.trans h1⟩
theorem outB_req {N n0 B : Nat} (hB : B < n0) : EReq N n0 (OutB B) := ⟨fun X Y hX hm k hk => by
  obtain ⟨o, ho⟩ : ∃ o, X.heap[B]? = some o := ⟨_, Array.getElem?_eq_getElem (by omega)⟩
  exact outB_cell (World.cell?_of_block (a := ⟨B, 0, none⟩) ((hm.keep B o ho (.inr (.inl (.inl rfl)))).trans ho.symm)) k hk⟩
theorem rowI_mv {w A B : World} {bt et : TypeId} {l : List Value} (h : RowI w bt et l A) (hm : Mv w.heap.size (OutB w.heap.size) A B) : RowI w bt et l B := by
  obtain ⟨v, h1, h2, h3⟩ := h
  refine ⟨v, hm.keep _ _ h1 (.inr (.inl (.inl rfl))), ⟨h2.1, ?_⟩, h3.trans (hm.to_below (Nat.le_refl _) h3.size)⟩
  rcases h2.2 with h4 | ⟨g, cap, cur, h4, h5, h6, h7⟩
  · exact .inl h4
  · exact .inr ⟨g, cap, cur, h4, h5, hm.keep g _ h6 (.inr (.inl (.inr ⟨l.length, cap, by rw [h1.cell, h4]⟩))), h7⟩
/-- what an append leaves -/
theorem rowB_append {w W w1 : World} {bt et : TypeId} {l l' : List Value} {v v' : Value} {tmp : Obj} (hbe : bt ≠ et) (hv : Boxed W w.heap.size bt v) (hrow : W.ownsRow w.heap.size et 1 v l.length l) (hb : Below w.heap.size w W)
    (hown' : w1.ownsRow w.heap.size et 1 v' l'.length l') (hgrow : (W.alloc tmp).grownBy w1 v.ownBlock) (hblk : v'.ownBlock = v.ownBlock ∨ v'.ownBlock = some (W.alloc tmp).heap.size) :
    Boxed w1 w.heap.size bt v ∧ RowI w bt et l' (w1.setCell ⟨w.heap.size, 0, none⟩ v') ∧ KM (OutB w.heap.size) W (w1.setCell ⟨w.heap.size, 0, none⟩ v') ∧ KeepsOthers W (w1.setCell ⟨w.heap.size, 0, none⟩ v') := by
  obtain ⟨a1, a2, a3, a4, a5⟩ := hv.appended hbe hrow hb.size (Nat.le_refl _) hown' hgrow
  refine ⟨a1, ⟨v', a2, a3, hb.trans a5⟩, ⟨⟨a4.size, fun k o hk ho hn => ?_⟩, fun k hk => ?_⟩, a4⟩
  · have hkw : k < W.heap.size := (Array.getElem?_eq_some_iff.1 hk).1
    have h1 : k ≠ w.heap.size := fun e => hn (.inl e)
    have h2 : some k ≠ v.ownBlock := fun e => by
      refine hn (.inr ?_)
      rcases hrow.2 with ⟨rfl, _⟩ | ⟨g, cap, cur, rfl, _, _, _⟩
      · simp [Value.ownBlock] at e
      · have : k = g := by simpa [Value.ownBlock] using e
        subst this
        exact ⟨_, _, hv.cell⟩
    rw [Below.heap_setCell _ _ _ k h1]
    exact (hgrow.block k (by simp; omega) h2).trans ((Below.heap_alloc W tmp k hkw).trans hk)
  · rcases hk with rfl | ⟨m, c, hc⟩
    · exact .inl (.inl rfl)
    · rw [a2.cell] at hc
      simp only [Option.some.injEq] at hc
      subst hc
      have hob : (Value.slice (some ⟨k, 0, none⟩) m c).ownBlock = some k := by simp [Value.ownBlock]
      have hkl := (own_lt a3 hob).2
      rw [hob] at hblk
      rcases hblk with h1 | h1
      · rcases hrow.2 with ⟨rfl, _⟩ | ⟨g, cap, cur, rfl, _, _, _⟩
        · simp [Value.ownBlock] at h1
        · have : k = g := by simpa [Value.ownBlock] using h1
          subst this
          exact .inl (.inr ⟨_, _, hv.cell⟩)
      · have : k = (W.alloc tmp).heap.size := by simpa using h1
        exact .inr ⟨by rw [this]; simp, hkl⟩
theorem inR_len (R : Nat → Option (List Nat)) (n x : Nat) : (inR R n x).length ≤ n / 8 + 1 := goO_len R _ _ _ _ (by simp)
section
variable {w w' : World} {s N : Nat} {R : Nat → Option (List Nat)} {n : Nat}
set_option maxHeartbeats 4000000 in
set_option maxRecDepth 100000 in
theorem list_at (h : Rd N w s R n) (x : Nat) (hx : x < 18446744073709551616) :
    Calls Tryz.prog 30 #[.pointer (some ⟨s, 0, none⟩), .int .u64 (x : Nat)] w fun e w' => ∃ v, e = .returned v ∧ w'.ownsRow w.heap.size 32 1 v (inR R n x).length (hsV (inR R n x)) ∧ Below w.heap.size w w' := by
  obtain ⟨i0, hi, hz0, hz1, hz2⟩ := info_parts Tryz.info_h
  refine (callsIn_wide (n := 9)).1 ?_
  have hIn := Lib.hid (fun w => (callsIn_wide (n := 8)).2 (in_calls s x w))
  have HH := Lib.hid h.here
  have hLl := inR_len R n x
  have hn := h.le
  obtain ⟨L, hL⟩ : ∃ L, L = inR R n x := ⟨_, rfl⟩
  rw [← hL] at hLl ⊢
  have hLH := Lib.hid hL
  have hLl2 : L.length ≤ 40000 := by omega
  clear h hL hLl hn
  refine callsIn_of_wp_marks Tryz.func30 rfl trivial ?_ rfl
  simp only [Tryz.ntmps30, List.size_toArray, List.length_cons, List.length_nil, Nat.reduceAdd, Nat.reduceSub, Array.replicate_succ, Array.replicate_zero, List.push_toArray, List.append_toArray, List.nil_append, List.cons_append]
  gi_wp2_with fail
  refine (hIn.out _).mono ?_
  rintro e w2 ⟨rfl, hW2⟩
  have hsz1 : (w.alloc (Obj.cells #[Value.slice none 0 0] 49)).heap.size = w.heap.size + 1 := by simp
  rw [hsz1]
  have hbx : Boxed w2 w.heap.size 49 (.slice none 0 0) := by rw [hW2]; exact ((Boxed.new w _ _).alloc _).alloc _
  have hx1 : w2.cell? ⟨w.heap.size + 1, 0, none⟩ = some (.pointer (some ⟨s, 0, none⟩)) := by rw [hW2]; go_simp
  have hx2 : Boxed w2 (w.heap.size + 1 + 1) 32 (.int .u64 (x : Nat)) := by
    rw [hW2]
    have := Boxed.new ((w.alloc (Obj.cells #[Value.slice none 0 0] 49)).alloc (Obj.cells #[Value.pointer (some ⟨s, 0, none⟩)] 25)) 32 (.int .u64 (x : Nat))
    rw [show ((w.alloc (Obj.cells #[Value.slice none 0 0] 49)).alloc (Obj.cells #[Value.pointer (some ⟨s, 0, none⟩)] 25)).heap.size = w.heap.size + 1 + 1 by simp] at this
    exact this
  have hb2w : Below w.heap.size w w2 := by rw [hW2]; exact (((Below.refl _ w).alloc (Nat.le_refl _) _).alloc (by simp) _).alloc (by simp; omega) _
  have hz2' : w.heap.size + 3 ≤ w2.heap.size := by rw [hW2]; simp
  clear hW2 hsz1 hIn
  gi_wp2_with fail
  have HH2 := Lib.hid (HH.out.below hb2w)
  have hofn : ∀ k, OutB w.heap.size w2 k → k = w.heap.size := fun k hk => by
    rcases hk with h | ⟨m, c, h⟩
    · exact h
    · rw [hbx.cell] at h; cases h
  refine wpIn_rangeFunc_mv (α := {y : Nat // y ∈ L}) rfl (by omega) (gf := 95) (lb := #[.pointer (some ⟨w.heap.size + 1, 0, none⟩), .pointer (some ⟨w.heap.size + 1 + 1, 0, none⟩)]) rfl trivial (enters_of Tryz.func95 (by kernel_rfl) rfl)
    (in_stops HH2.out hLH.out hx1 hx2 (by omega) (by omega) hx (OutB w.heap.size) (outB_req (by omega)) (fun k hk => by have := hofn k hk; omega))
    (fun A B hm k o hk ho => hm.keep k o hk (.inr (.inr ho)))
    (fun h k => h.trans k) (fun W l o o' hl' hl h1 h2 => ⟨KB.putObj o' hl h1 h2, fun k hk => .inl (outB_cell (World.cell?_of_block (a := ⟨w.heap.size, 0, none⟩) (World.putObj_heap_other (by simp; omega))) k hk)⟩) (Below.refl _ _) (fun _ => rfl)
    (fun pre W => RowI w 49 32 (hsV (pre.map (fun (z : {y : Nat // y ∈ L}) => z.1))) W)
    (fun cd pre W => False)
    (rowI_own w _ _ (fun pre : List {y : Nat // y ∈ L} => hsV (pre.map (fun (z : {y : Nat // y ∈ L}) => z.1))) _ (by omega))
    (fun _ _ _ _ _ hs _ _ => hs)
    (fun s A B hs hm => rowI_mv hs hm)
    (fun c s A B hs hm => hs)
    ⟨_, hbx, World.ownsRow_nil _ _ _ _, hb2w⟩
    (fun z a' W => a' = { tmps := #[Value.pointer (some { block := s, off := 0 }), Value.int IntKind.u64 (x : Nat), undef, undef, Value.slice none 0 0, Value.pointer (some { block := w.heap.size, off := 0 }), Value.int IntKind.u64 (z.1 : Nat), Value.pointer (some { block := s, off := 0 }), Value.int IntKind.u64 (x : Nat), Value.func (Fn.func 95) #[] #[Value.pointer (some { block := w.heap.size + 1, off := 0 }), Value.pointer (some { block := w.heap.size + 1 + 1, off := 0 })], Value.int IntKind.u64 (z.1 : Nat), (nodeG R z.1).v, undef, undef, undef, undef, undef], defers := [] })
    (fun _ _ _ _ _ _ hs _ _ => hs)
    ?assign ?body ?done ?stop
  case assign =>
    rintro l pre ⟨y, hy⟩ W K hi hK
    dsimp only at hK ⊢
    gi_wp2
    exact hK _ W (KeepsOthers.refl _ |>.from _) ⟨KB.refl _ _, fun k hk => .inl hk⟩ hi rfl
  case body =>
    rintro l pre ⟨z, hz⟩ a' W hl ⟨r, hr⟩ hi rfl hlen
    dsimp only
    obtain ⟨v, hv, hrow, hb⟩ := hi
    have hnext : Hid (hsV ((pre ++ [(⟨z, hz⟩ : {y : Nat // y ∈ L})]).map (fun (z : {y : Nat // y ∈ L}) => z.1)) = hsV (pre.map (fun (z : {y : Nat // y ∈ L}) => z.1)) ++ [Value.int .u64 (z : Nat)]) := Lib.hid (by rw [List.map_append, hsV, List.map_append]; rfl)
    have hpl : (hsV (pre.map (fun (z : {y : Nat // y ∈ L}) => z.1))).length ≤ 40000 := by simp [hsV]; omega
    generalize hsV (pre.map (fun (z : {y : Nat // y ∈ L}) => z.1)) = told at *
    generalize nodeG R z = nd at *
    have hc := hv.cell
    have hbH := Lib.hid hb
    have hrowH := Lib.hid hrow
    have hvH := Lib.hid hv
    clear hb hrow hv
    have hz : w.heap.size ≤ W.heap.size := hbH.out.size
    unfold Nd.v
    gi_wp2_with (gi_at_builtin; refine wpListIn_append_own_at _ rfl _ _ 49 rfl w.heap.size 32 i0 (.int .u64 0) 1 8 Tryz.under_hs hi hz0 hz1 hz2 rfl (by decide) _ _ _ rfl (hrowH.out.alloc _) ⟨W.heap.size, 0, none⟩ 1 1 [.int .u64 (z : Nat)] rfl rfl (cell_one_new _ _ _) (by simp [Value.oneCell']) (by unfold maxLen; omega) (by omega) (by simp; omega) ?_; intro v' w1 hown' hgrow _ hblk; obtain ⟨g', cap', rfl⟩ := ownsRow_succ hown'; obtain ⟨b1, b2, b4, b5⟩ := rowB_append (l' := told ++ [Value.int .u64 (z : Nat)]) (by decide) hvH.out hrowH.out hbH.out (by simpa using hown') hgrow hblk; have hc1 := b1.cell; have hf1 := b1.frozen)
    exact ⟨b5.from _, b4, by show RowI w _ _ _ _; rw [hnext.out]; exact b2⟩
  case done =>
    rintro D' xs W hD hxs hi hK
    rw [hxs] at hi
    have hwl : (hsV L).length = L.length := by simp [hsV]
    obtain ⟨v, hv, hrow, hb⟩ := hi
    rw [hwl] at hrow
    have hc := hv.cell
    have hbH := Lib.hid hb
    have hrowH := Lib.hid hrow
    clear hb hrow hv hxs
    gi_wp2
    refine ⟨by simp, .inl ⟨_, _, rfl, run_takeDeferred hK, ?_⟩⟩
    refine ⟨v, by simp [results, Tryz.f30], v, rfl, ownsRow_kb (Cs := fun _ => False) hrowH.out (KB.putObj _ hK rfl rfl) (fun _ h => h.elim), ?_⟩
    exact hbH.out.trans (belowK_b (w := w) (Nat.le_refl _) _ D' _ _ (by omega) hK rfl rfl)
  case stop =>
    rintro D' cd pre W hD hSp hf
    exact hf.elim
end
end Go.Proofs.YtjpmlneihbckpaaGreatDoor
/- walk.Check: what it computes, and the map of what was seen. -/
set_option linter.unusedVariables false
set_option linter.unusedSimpArgs false
namespace Go.Proofs.YtjpmlneihbckpaaGreatDoor
open Go.RowKit Go.Shelf
/-- three handles that were not seen are seen -/
def chk3 (S : List Nat) : List Nat → Option (List Nat)
  | [] => some S
  | x :: t => if x ∈ S then none else chk3 (S ++ [x]) t
/-- what Check knows behind some nodes: handles that it has seen, the last key, whether there was none, sides -/
structure Cst where
  S : List Nat
  last : ByteArray
  first : Bool
  sides : List Nat
def Cst.bad (R : Nat → Option (List Nat)) (c : Cst) (h : Nat) : Bool :=
  pairE R h != 0 || ((!c.first && decide (0 ≤ Tx.cmp c.last (pairP R h).1)) || !fitsR R (nodeG R h))
def Cst.step (R : Nat → Option (List Nat)) (c : Cst) (h : Nat) : Option Cst :=
  if c.bad R h = true then none
  else (chk3 c.S [h, (nodeG R h).key, (nodeG R h).val]).map fun S' => ⟨S', (pairP R h).1, false, c.sides ++ [(nodeG R h).left, (nodeG R h).right]⟩
def chkL (R : Nat → Option (List Nat)) (root : Nat) (l : List Nat) : Option Cst := l.foldl (fun c h => c.bind fun c => c.step R h) (some ⟨[], ⟨#[]⟩, true, [root]⟩)
theorem chkL_snoc (R : Nat → Option (List Nat)) (root : Nat) (l : List Nat) (h : Nat) : chkL R root (l ++ [h]) = (chkL R root l).bind fun c => c.step R h := by
  unfold chkL; rw [List.foldl_append]; rfl
theorem fold_none (R : Nat → Option (List Nat)) : ∀ l : List Nat, l.foldl (fun (c : Option Cst) h => c.bind fun c => c.step R h) none = none
  | [] => rfl
  | _ :: t => fold_none R t
theorem chkL_none (R : Nat → Option (List Nat)) (root : Nat) (l t : List Nat) (h : chkL R root l = none) : chkL R root (l ++ t) = none := by
  unfold chkL at *
  rw [List.foldl_append, h]
  exact fold_none R t
/-- what Check answers -/
def checkR (R : Nat → Option (List Nat)) (n root : Nat) : Nat :=
  if root = 0 then 0
  else if nodeE R root ≠ 0 then 8
  else match chkL R root (inR R n root) with
    | none => 8
    | some c => if c.sides.any (fun x => x != 0 && !c.S.contains x) then 8 else if (3 * (nodeG R root).size) % 18446744073709551616 ≠ c.S.length then 8 else 0
theorem chk3_len : ∀ (S l S' : List Nat), chk3 S l = some S' → S'.length = S.length + l.length
  | S, [], S', h => by unfold chk3 at h; cases h; simp
  | S, x :: t, S', h => by
    unfold chk3 at h
    by_cases hx : x ∈ S
    · rw [if_pos hx] at h; cases h
    · rw [if_neg hx] at h
      have := chk3_len _ _ _ h
      simp at this ⊢; omega
/-- the map of what was seen: of each handle one -/
structure SeenIs (D : DW) (S : List Nat) : Prop where
  tidy : Maps.Tidy D
  at' : ∀ x : Nat, D.atKey (.int .u64 (x : Nat)) (.lit (.int .i64 0)) = .lit (.int .i64 (if x ∈ S then 1 else 0))
  has : ∀ x : Nat, Maps.has D (.int .u64 (x : Nat)) = decide (x ∈ S)
  size : Maps.size D = S.length
theorem key_u64 (x : Nat) : WideAt.IsKeyLit (.int .u64 (x : Nat)) := by simp [WideAt.IsKeyLit]
theorem SeenIs.empty : SeenIs (.map []) [] := ⟨Maps.tidy_empty, fun x => by rfl, fun x => by rfl, rfl⟩
theorem SeenIs.put {D : DW} {S : List Nat} (h : SeenIs D S) {x : Nat} (hx : x ∉ S) : SeenIs (D.put (.int .u64 (x : Nat)) (.lit (.int .i64 1))) (S ++ [x]) := by
  refine ⟨h.tidy.put (key_u64 x) _, fun y => ?_, fun y => ?_, ?_⟩
  · by_cases e : y = x
    · subst e
      rw [Maps.atKey_put_same h.tidy.isMap (key_u64 _), if_pos (by simp)]
    · rw [Maps.atKey_put_other (by simp; omega), h.at' y]
      simp [e]
  · by_cases e : y = x
    · subst e
      rw [Maps.has_put_same h.tidy.isMap (key_u64 _)]
      simp
    · rw [Maps.has_put_other (by simp; omega), h.has y]
      simp [e]
  · rw [Maps.size_put h.tidy, h.has x, if_neg (by simpa using hx), h.size]
    simp
abbrev SeenMap (w : World) (b m : Nat) (D : DW) : Prop := w.ownsMap Tryz.prog 32 (plainElem Tryz.prog 3) b m D
theorem keyedH : Maps.Keyed Tryz.prog 32 := Maps.int_keyed Tryz.underlying32
theorem keyH {x : Nat} (h : x < 18446744073709551616) : keyOf Tryz.prog 32 (.int .u64 (x : Nat)) = some (.int .u64 (x : Nat)) :=
  Maps.keyOf_int_mk Tryz.underlying32 (by simp [Lit.wf, IntKind.min, IntKind.max, IntKind.signed, IntKind.bits]; omega)
theorem zeroInt (w : World) : (zeroValue 3).run Tryz.prog w = .ok (.int .i64 0) w := by kernel_rfl
theorem seen_look {w : World} {b m : Nat} {D : DW} (h : SeenMap w b m D) {x : Nat} (hx : x < 18446744073709551616) {c : Int} (hc : D.atKey (.int .u64 (x : Nat)) (.lit (.int .i64 0)) = .lit (.int .i64 c)) :
    (Instr.lookup 148 (.map (some b)) (.int .u64 (x : Nat)) false).run Tryz.prog w = .ok (.int .i64 c) w := by
  obtain ⟨c', hrun, hat, _⟩ := h.lookup_int keyedH Tryz.underlying148 Tryz.underlying3 (zeroInt w) (keyH hx)
  rw [hat] at hc
  cases hc
  exact hrun
theorem seen_put_at {D : DW} (h : Maps.IsMap D) (x : Nat) (c : Int) : (D.put (.int .u64 (x : Nat)) (.lit (.int .i64 c))).atKey (.int .u64 (x : Nat)) (.lit (.int .i64 0)) = .lit (.int .i64 c) := Maps.atKey_put_same h (key_u64 x) _ _
theorem plain_int {c : Int} (h1 : -9223372036854775808 ≤ c) (h2 : c ≤ 9223372036854775807) : plainElem (H := Unit) Tryz.prog 3 (.int .i64 c) = some (.lit (.int .i64 c), []) := plainElem_int Tryz.underlying3 (WalkArith.wf_i64 ⟨h1, h2⟩)
end Go.Proofs.YtjpmlneihbckpaaGreatDoor

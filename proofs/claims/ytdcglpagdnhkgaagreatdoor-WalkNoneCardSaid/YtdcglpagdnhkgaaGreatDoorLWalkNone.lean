/-
  The seat's own texts, what WalkNone wants besides: OpenNd, Two, Nil, Nil2, None.
-/
import Derived.Test.YtdcglpagdnhkgaaGreatDoorMi
/- A node by value, as a law's row opens it; a handle. -/
set_option linter.unusedVariables false
set_option linter.unusedSimpArgs false
namespace Go.Proofs.YtdcglpagdnhkgaaGreatDoor
open Go.ChangeShapes Go.WideShapes Go.ChangeAt Go.WideMaps Go.WideElems Go.RowKit Go.Deep
theorem u64_bound {n : Int} (h : (Lit.int .u64 n).wf = true) : 0 ≤ n ∧ n ≤ 18446744073709551615 := by
  simpa [Lit.wf, IntKind.min, IntKind.max, IntKind.signed, IntKind.bits] using h
theorem nd_under : ∃ fs : Array Field, Tryz.prog.underlying 50 = some (.struct fs) ∧ oneCellFields Tryz.prog fs = true ∧ fs.size = 6 ∧ ∀ i, i < 6 → ∃ f, fs[i]? = some f ∧ Tryz.prog.underlying f.type = some (.int .u64) := by
  refine ⟨_, Tryz.underlying50, by kernel_rfl, rfl, fun i hi => ?_⟩
  match i, hi with
  | 0, _ => exact ⟨_, rfl, Tryz.underlying28⟩
  | 1, _ => exact ⟨_, rfl, Tryz.underlying28⟩
  | 2, _ => exact ⟨_, rfl, Tryz.underlying28⟩
  | 3, _ => exact ⟨_, rfl, Tryz.underlying28⟩
  | 4, _ => exact ⟨_, rfl, Tryz.underlying27⟩
  | 5, _ => exact ⟨_, rfl, Tryz.underlying27⟩
  | i + 6, h => omega
section
variable {H : Type} {enc : TypeId × Value → H} {w : World} {held : Bool} {v : Value} {d : DataW H} {p : List MemPlace}
set_option maxRecDepth 100000 in
theorem open_nd {base : Nat} (hv : Value.okWide Tryz.prog w .any base 50 v) (h : DataW.Trod enc Tryz.prog w 0 (fun _ => true) held 50 v d p) : ∃ x : Nd, v = x.v ∧ x.Ok := by
  obtain ⟨fs, hu, hone, h6, hfs⟩ := nd_under
  obtain ⟨cs, rfl, hsz⟩ := okWide_struct hu hv
  have hc6 : Tryz.prog.cellsOf 50 = 6 := by kernel_rfl
  obtain ⟨l⟩ := cs
  match l, hsz.trans hc6 with
  | [c0, c1, c2, c3, c4, c5], _ =>
    obtain ⟨fuel, hf⟩ := h
    obtain ⟨xs, n, _, hx, _, hlen, hg⟩ := DataW.trod_struct hu hf
    have each : ∀ i, (hi : i < 6) → ∃ z : Nat, ((([c0, c1, c2, c3, c4, c5] : List Value).drop i).take 1) = [Value.int .u64 (z : Nat)] ∧ z < 18446744073709551616 := fun i hi => by
      obtain ⟨f, hfi, hfu⟩ := hfs i hi
      obtain ⟨o1, k1⟩ := hone_of hone i f hfi
      have h1 := hg i f hfi
      have hxl : i < xs.length := by omega
      rw [o1, k1, List.getElem?_eq_getElem hxl] at h1
      simp only [Value.cells] at h1
      obtain ⟨m, e1, _, hwf⟩ := DataW.trod_int hfu h1
      obtain ⟨b1, b2⟩ := u64_bound hwf
      obtain ⟨z, rfl⟩ := Int.eq_ofNat_of_zero_le b1
      exact ⟨z, e1, by omega⟩
    obtain ⟨z0, e0, b0⟩ := each 0 (by omega)
    obtain ⟨z1, e1, b1⟩ := each 1 (by omega)
    obtain ⟨z2, e2, b2⟩ := each 2 (by omega)
    obtain ⟨z3, e3, b3⟩ := each 3 (by omega)
    obtain ⟨z4, e4, b4⟩ := each 4 (by omega)
    obtain ⟨z5, e5, b5⟩ := each 5 (by omega)
    simp only [List.drop_succ_cons, List.drop_zero, List.take_succ_cons, List.take_zero, List.cons.injEq, and_true] at e0 e1 e2 e3 e4 e5
    subst e0 e1 e2 e3 e4 e5
    exact ⟨⟨z0, z1, z2, z3, z4, z5⟩, rfl, ⟨b0, b1, b2, b3, b4, b5⟩⟩
end
end Go.Proofs.YtdcglpagdnhkgaaGreatDoor
/- Two trees in one store. -/
set_option linter.unusedVariables false
set_option linter.unusedSimpArgs false
namespace Go.Proofs.YtdcglpagdnhkgaaGreatDoor
open Go.RowKit Go.Shelf
/-- six cells of one block are turned -/
def setSix (W : World) (b : Nat) (v0 v1 v2 v3 v4 v5 : Value) : World := (((((W.setCell ⟨b, 0, none⟩ v0).setCell ⟨b, 1, none⟩ v1).setCell ⟨b, 2, none⟩ v2).setCell ⟨b, 3, none⟩ v3).setCell ⟨b, 4, none⟩ v4).setCell ⟨b, 5, none⟩ v5
theorem kb_one (W : World) (b j : Nat) (v : Value) : KB (fun k => k = b) W (W.setCell ⟨b, j, none⟩ v) := KB.setCell (Cs := fun k => k = b) (p := ⟨b, j, none⟩) rfl v
theorem setSix_kb (W : World) (b : Nat) (v0 v1 v2 v3 v4 v5 : Value) : KB (fun k => k = b) W (setSix W b v0 v1 v2 v3 v4 v5) :=
  (((((kb_one W b 0 v0).trans (kb_one _ b 1 v1)).trans (kb_one _ b 2 v2)).trans (kb_one _ b 3 v3)).trans (kb_one _ b 4 v4)).trans (kb_one _ b 5 v5)
theorem setSix_below {w W : World} {m b : Nat} (h : Below m w W) (hb : m ≤ b) (v0 v1 v2 v3 v4 v5 : Value) : Below m w (setSix W b v0 v1 v2 v3 v4 v5) :=
  (((((h.setCell (p := ⟨b, 0, none⟩) hb v0).setCell (p := ⟨b, 1, none⟩) hb v1).setCell (p := ⟨b, 2, none⟩) hb v2).setCell (p := ⟨b, 3, none⟩) hb v3).setCell (p := ⟨b, 4, none⟩) hb v4).setCell (p := ⟨b, 5, none⟩) hb v5
theorem setSix_eq (W : World) (b : Nat) (v0 v1 v2 v3 v4 v5 : Value) : (((((W.setCell ⟨b, 0, none⟩ v0).setCell ⟨b, 1, none⟩ v1).setCell ⟨b, 2, none⟩ v2).setCell ⟨b, 3, none⟩ v3).setCell ⟨b, 4, none⟩ v4).setCell ⟨b, 5, none⟩ v5 = setSix W b v0 v1 v2 v3 v4 v5 := rfl
section
variable {w w' : World} {s N : Nat} {F : Nat → Prop} {R R' : Nat → Option (List Nat)} {H : List Nat} {P q most last G n : Nat}
theorem treeNil (rd : Rd N w s R n) (sh : Short R) (z : R 0 = none) : TreeR N w s R n .nil [] :=
  ⟨rd, sh, z, trivial, rfl, List.Pairwise.nil, List.nodup_nil, Nat.zero_le _⟩
theorem treeIn (h : StoreIs w s F R H P q most last G) (sh : Short R) (z : R 0 = none) {t : BT} (ht : t.At R) {l : List Pr} (hp : t.prs = l) (hr : Rising l) (hn : t.hs.Nodup) : ∃ n, TreeR w.heap.size w s R n t l ∧ WordsR R H P n := by
  obtain ⟨n, hrd, hwd⟩ := h.rd
  exact ⟨n, ⟨hrd, sh, z, ht, hp, hr, hn, BT.size_words ht hn h.dom hwd⟩, hwd⟩
theorem GrowOut.other {t t' : BT} (g : GrowOut R R' t) (h : t'.At R) : t'.At R' := h.congr fun x hx => g.keep (BT.hs_in t' h x hx)
theorem GrowOut.apart {t t' : BT} (g : GrowOut R R' t) (h : t'.At R) : ∀ x ∈ t'.hs, x ∉ t.hs := fun x hx hm => BT.hs_in t' h x hx (g.fresh x hm)
theorem dropR_at {t t' : BT} (h : t'.At R) (ha : ∀ x ∈ t'.hs, x ∉ t.hs) : t'.At (dropR R t.hs) := h.congr fun x hx => dropR_out (ha x hx)
theorem dropR_zero {l : List Nat} (h : R 0 = none) : dropR R l 0 = none := by
  unfold dropR
  split
  · rfl
  · exact h
/-- a step that turns cells of other blocks leaves the store as it is -/
theorem StoreIs.kb {Cs : Nat → Prop} (h : StoreIs w s F R H P q most last G) (hk : KB Cs w w') (hF : ∀ k, Cs k → ¬ F k) (hs : ¬ Cs s) (hp : ∀ k, Cs k → ∀ p, w.cell? ⟨k, 0, none⟩ ≠ some (.pointer p)) (ht : ¬ Cs 1) : StoreIs w' s F R H P q most last G := by
  obtain ⟨a, ha, t, v, L, mem, sl, Fh, h⟩ := h
  have hFe := h.F_eq
  have hha : ¬ Cs ha := fun hc => by
    obtain ⟨⟨mb, D, k1, rfl⟩, _, _⟩ := h.heap
    exact hp ha hc _ k1.hs
  exact ⟨a, ha, t, v, L, mem, sl, Fh, { h with
    ca := hk.cell h.ca hs
    ch := hk.cell h.ch hs
    ct := hk.cell h.ct hs
    heap := h.heap.kb hk (fun k hf hc => hF k hc (by rw [hFe]; exact .inl hf)) hha ht
    tab := h.tab.kb hk (fun b hf hc => hF b hc (by rw [hFe]; exact .inr hf)) }⟩
/-- a root that is dropped is no node -/
theorem check_gone (n x : Nat) (h0 : x ≠ 0) (hx : R x = none) : checkR R n x = 8 := by
  unfold checkR
  have : nodeE R x = 7 := by unfold nodeE; rw [hx]
  rw [if_neg h0, if_pos (by rw [this]; decide)]
theorem BT.root_in {t : BT} (h : t.root ≠ 0) : t.root ∈ t.hs := by
  cases t with
  | nil => exact absurd rfl h
  | node x kh vh m k v l r => simp [BT.root, BT.hs]
end
end Go.Proofs.YtdcglpagdnhkgaaGreatDoor
/- The walk layer without a store. -/
set_option linter.unusedVariables false
set_option linter.unusedSimpArgs false
namespace Go.Proofs.YtdcglpagdnhkgaaGreatDoor
open Go.RowKit Go.Shelf
set_option maxRecDepth 100000 in
theorem words_nil (w : World) : Calls Tryz.prog 28 #[.pointer none] w fun e w' => e = .returned (.int .i64 0) ∧ w = w' := by
  go_enter Tryz.func28, Tryz.ntmps28
  go_wp2_with fail
  refine (snone_nil _).mono ?_
  rintro e w' ⟨rfl, rfl⟩
  go_wp2
  go_ret
  exact ⟨rfl, rfl⟩
set_option maxRecDepth 100000 in
theorem limit_nil (w : World) : Calls Tryz.prog 37 #[.pointer none] w fun e w' => e = .returned (.int .i64 1) ∧ w = w' := by
  go_enter Tryz.func37, Tryz.ntmps37
  go_wp2_with fail
  refine (words_nil _).mono ?_
  rintro e w' ⟨rfl, rfl⟩
  go_wp2
  go_ret
  exact ⟨rfl, rfl⟩
set_option maxHeartbeats 1000000 in
set_option maxRecDepth 100000 in
theorem down_nil (x : Nat) (k : ByteArray) (w : World) : Calls Tryz.prog 34 #[.pointer none, .int .u64 (x : Nat), .string k] w fun e w' => e = .returned (.tuple #[.int .u64 0, .int .i64 0]) ∧ Below w.heap.size w w' := by
  have hG := Lib.hid (nget_nil x w)
  unfold Nd.v Nd.zero at hG
  by_cases h0 : x = 0
  · subst h0
    go_enter Tryz.func34, Tryz.ntmps34
    go_wp2_with fail
    refine (limit_nil _).mono ?_
    rintro e w' ⟨rfl, rfl⟩
    go_wp2_with fail
    go_loopw [1, 7, 9] (fun rv bv iv wr => rv = .int .u64 ((0 : Nat) : Nat) ∧ bv = .int .i64 0 ∧ iv = .int .i64 0 ∧ wr = w) (fun _ _ iv _ => (intOf iv).toNat)
    case atStart => exact ⟨rfl, rfl, rfl, rfl⟩
    case round =>
      obtain ⟨rfl, rfl, rfl, rfl⟩ := hrel
      go_wp2
      go_ret2
      exact ⟨rfl, Below.refl _ _⟩
  · have dx : ((x : Int) != 0) = true := by simp; omega
    go_enter Tryz.func34, Tryz.ntmps34
    go_wp2_with fail
    refine (limit_nil _).mono ?_
    rintro e w' ⟨rfl, rfl⟩
    go_wp2_with fail
    go_loopw [1, 7, 9] (fun rv bv iv wr => rv = .int .u64 (x : Nat) ∧ bv = .int .i64 0 ∧ iv = .int .i64 0 ∧ wr = w) (fun _ _ iv _ => (intOf iv).toNat)
    case atStart => exact ⟨rfl, rfl, rfl, rfl⟩
    case round =>
      obtain ⟨rfl, rfl, rfl, rfl⟩ := hrel
      go_wp2_with fail
      refine hG.out.mono ?_
      rintro e w1 ⟨rfl, hb1⟩
      have hz := hb1.size
      have hbH := Lib.hid hb1
      clear hb1
      go_wp2
      go_ret2
      exact ⟨rfl, hbH.out.alloc hz _⟩
set_option maxRecDepth 100000 in
theorem find_nil (x : Nat) (k : ByteArray) (w : World) : Calls Tryz.prog 15 #[.pointer none, .int .u64 (x : Nat), .string k] w fun e w' => e = .returned (.tuple #[.int .u64 0, .bool false]) ∧ Below w.heap.size w w' := by
  go_enter Tryz.func15, Tryz.ntmps15
  go_wp2_with fail
  refine (down_nil _ _ _).mono ?_
  rintro e w1 ⟨rfl, hb1⟩
  have hbH := Lib.hid hb1
  clear hb1
  go_wp2
  go_ret2
  exact ⟨rfl, hbH.out⟩
set_option maxRecDepth 100000 in
theorem rank_nil (x : Nat) (k : ByteArray) (w : World) : Calls Tryz.prog 17 #[.pointer none, .int .u64 (x : Nat), .string k] w fun e w' => e = .returned (.int .i64 0) ∧ Below w.heap.size w w' := by
  go_enter Tryz.func17, Tryz.ntmps17
  go_wp2_with fail
  refine (down_nil _ _ _).mono ?_
  rintro e w1 ⟨rfl, hb1⟩
  have hbH := Lib.hid hb1
  clear hb1
  go_wp2
  go_ret
  exact ⟨rfl, hbH.out⟩
set_option maxRecDepth 100000 in
theorem at_nil (x : Nat) (k : Int) (w : World) : Calls Tryz.prog 20 #[.pointer none, .int .u64 (x : Nat), .int .i64 k] w fun e w' => e = .returned (.tuple #[.int .u64 0, .int .i64 1]) ∧ w = w' := by
  have hL := Lib.hid (slen_nil 0 w)
  go_enter Tryz.func20, Tryz.ntmps20
  go_wp2_with fail
  refine hL.out.mono ?_
  rintro e w1 ⟨rfl, rfl⟩
  go_wp2
  go_ret2
  exact ⟨rfl, rfl⟩
set_option maxRecDepth 100000 in
theorem pair_nil (x : Nat) (w : World) : Calls Tryz.prog 19 #[.pointer none, .int .u64 (x : Nat)] w fun e w' => e = .returned (.tuple #[.agg #[.string ⟨#[]⟩, .string ⟨#[]⟩], .int .i64 1]) ∧ Below w.heap.size w w' := by
  have hb0 : Below w.heap.size w (w.alloc (Obj.cells #[Value.string ⟨#[]⟩, Value.string ⟨#[]⟩] 39)) := (Below.refl _ w).alloc (Nat.le_refl _) _
  have c0 : (w.alloc (Obj.cells #[Value.string ⟨#[]⟩, Value.string ⟨#[]⟩] 39)).cell? ⟨w.heap.size, 0, none⟩ = some (.string ⟨#[]⟩) := by go_simp
  have c1 : (w.alloc (Obj.cells #[Value.string ⟨#[]⟩, Value.string ⟨#[]⟩] 39)).cell? ⟨w.heap.size, 1, none⟩ = some (.string ⟨#[]⟩) := by go_simp
  have f0 : (w.alloc (Obj.cells #[Value.string ⟨#[]⟩, Value.string ⟨#[]⟩] 39)).frozen? ⟨w.heap.size, 0, none⟩ = false := by go_simp
  have f1 : (w.alloc (Obj.cells #[Value.string ⟨#[]⟩, Value.string ⟨#[]⟩] 39)).frozen? ⟨w.heap.size, 1, none⟩ = false := by go_simp
  have hG := Lib.hid (nget_nil x (w.alloc (Obj.cells #[Value.string ⟨#[]⟩, Value.string ⟨#[]⟩] 39)))
  unfold Nd.v Nd.zero at hG
  have hb0H := Lib.hid hb0
  clear hb0
  go_enter Tryz.func19, Tryz.ntmps19
  go_wp2_with fail
  generalize (w.alloc (Obj.cells #[Value.string ⟨#[]⟩, Value.string ⟨#[]⟩] 39)) = W at *
  refine hG.out.mono ?_
  rintro e w1 ⟨rfl, hb1⟩
  have hz := hb1.size
  have g0 := (hb1.cell (p := ⟨w.heap.size, 0, none⟩) (cell_lt c0)).trans c0
  have g1 := (hb1.cell (p := ⟨w.heap.size, 1, none⟩) (cell_lt c1)).trans c1
  have k0 := (hb1.frozen (p := ⟨w.heap.size, 0, none⟩) (cell_lt c0)).trans f0
  have k1 := (hb1.frozen (p := ⟨w.heap.size, 1, none⟩) (cell_lt c1)).trans f1
  have hlt : w.heap.size < w1.heap.size := cell_lt (a := ⟨w.heap.size, 0, none⟩) g0
  have hbH := Lib.hid (hb0H.out.trans (hb1.mono hb0H.out.size))
  clear hb1 c0 c1 f0 f1
  have ht := two_set g0 g1 (.string ⟨#[]⟩) (.string ⟨#[]⟩)
  have r0 := alloc_cell (Obj.cells #[Value.int IntKind.u64 0, Value.int IntKind.u64 0, Value.int IntKind.u64 0, Value.int IntKind.u64 0, Value.int IntKind.u64 0, Value.int IntKind.u64 0] 50) ht.1
  have r1 := alloc_cell (Obj.cells #[Value.int IntKind.u64 0, Value.int IntKind.u64 0, Value.int IntKind.u64 0, Value.int IntKind.u64 0, Value.int IntKind.u64 0, Value.int IntKind.u64 0] 50) ht.2
  have hbf := Lib.hid (((hbH.out.setCell (p := ⟨w.heap.size, 0, none⟩) (Nat.le_refl _) (.string ⟨#[]⟩)).setCell (p := ⟨w.heap.size, 1, none⟩) (Nat.le_refl _) (.string ⟨#[]⟩)).alloc (by simp; omega) (Obj.cells #[Value.int IntKind.u64 0, Value.int IntKind.u64 0, Value.int IntKind.u64 0, Value.int IntKind.u64 0, Value.int IntKind.u64 0, Value.int IntKind.u64 0] 50))
  clear ht
  go_wp2
  refine bodyPost_ret (v := .tuple #[.agg #[.string ⟨#[]⟩, .string ⟨#[]⟩], .int .i64 1]) ?_ rfl ⟨rfl, hbf.out⟩
  simp [results, Tryz.f19, go_sem, r0, r1]
set_option maxRecDepth 100000 in
theorem check_nil (x : Nat) (w : World) : Calls Tryz.prog 13 #[.pointer none, .int .u64 (x : Nat)] w fun e w' => e = .returned (.int .i64 1) ∧ Below w.heap.size w w' := by
  have hb0 : Below w.heap.size w ((w.alloc (Obj.cells #[Value.pointer none] 26)).alloc (Obj.cells #[Value.int IntKind.i64 0] 31)) := ((Below.refl _ w).alloc (Nat.le_refl _) _).alloc (by simp) _
  have hL := Lib.hid (slen_nil 0 ((w.alloc (Obj.cells #[Value.pointer none] 26)).alloc (Obj.cells #[Value.int IntKind.i64 0] 31)))
  have q2 : Boxed ((w.alloc (Obj.cells #[Value.pointer none] 26)).alloc (Obj.cells #[Value.int IntKind.i64 0] 31)) (w.heap.size + 1) 31 (.int .i64 0) := by
    have := Boxed.new (w.alloc (Obj.cells #[Value.pointer none] 26)) 31 (.int .i64 0)
    rwa [show (w.alloc (Obj.cells #[Value.pointer none] 26)).heap.size = w.heap.size + 1 by simp] at this
  have r2 := q2.cell
  have f2 := q2.frozen
  have r3 := (q2.set (.int .i64 1)).cell
  have hbf := Lib.hid (hb0.setCell (p := ⟨w.heap.size + 1, 0, none⟩) (by simp) (.int .i64 1))
  clear hb0 q2
  go_enter Tryz.func13, Tryz.ntmps13
  go_wp2_with fail
  generalize ((w.alloc (Obj.cells #[Value.pointer none] 26)).alloc (Obj.cells #[Value.int IntKind.i64 0] 31)) = W at *
  refine hL.out.mono ?_
  rintro e w1 ⟨rfl, rfl⟩
  go_wp2
  refine bodyPost_ret (v := .int .i64 1) ?_ rfl ⟨rfl, hbf.out⟩
  simp [results, Tryz.f13, go_sem, r3]
set_option maxRecDepth 100000 in
theorem wfree_nil (x : Nat) (w : World) : Calls Tryz.prog 24 #[.pointer none, .int .u64 (x : Nat)] w fun e w' => e = .returned (.int .i64 1) ∧ Below w.heap.size w w' := by
  have hC := Lib.hid (check_nil x w)
  go_enter Tryz.func24, Tryz.ntmps24
  go_wp2_with fail
  refine hC.out.mono ?_
  rintro e w1 ⟨rfl, hb1⟩
  have hbH := Lib.hid hb1
  clear hb1
  go_wp2
  go_ret
  exact ⟨rfl, hbH.out⟩
end Go.Proofs.YtdcglpagdnhkgaaGreatDoor
/- walk.List without a store. -/
set_option linter.unusedVariables false
set_option linter.unusedSimpArgs false
namespace Go.Proofs.YtdcglpagdnhkgaaGreatDoor
open Go.RowKit Go.Shelf
attribute [local go_sem] Oper.semAt_some wide_fn
set_option maxHeartbeats 2000000 in
set_option maxRecDepth 100000 in
theorem in_nil {w : World} {N B1 B2 root : Nat} {E : World → Nat → Prop} (hB1 : w.cell? ⟨B1, 0, none⟩ = some (.pointer none)) (hB2 : Boxed w B2 28 (.int .u64 (root : Nat))) :
    SeqMv Fence.wide 8 Tryz.prog 55 #[.pointer (some ⟨B1, 0, none⟩), .pointer (some ⟨B2, 0, none⟩)] (fun x : {y : Nat // y ∈ ([] : List Nat)} => #[.int .u64 (x.1 : Nat), Nd.zero.v]) (KM E) (Mv N E) (fun xs => xs.map (·.1) = ([] : List Nat)) (fun pre => ∃ t, ([] : List Nat) = pre.map (·.1) ++ t) 0 w := fun l J Jx W hBW hJ hJx hY h0 => by
  have hb1 := (hBW.cell (p := ⟨B1, 0, none⟩) (cell_lt hB1)).trans hB1
  have hb2 : Boxed W B2 28 (.int .u64 (root : Nat)) := (hBW.block _ hB2.lt).trans hB2
  have hb2c := hb2.cell
  have hJH := Lib.hid hJ
  have J0 := Lib.hid h0
  have hLi := Lib.hid ((callsIn_wide (n := 7)).2 (limit_nil W))
  have hG := (callsIn_wide (n := 7)).2 (nget_nil root W)
  unfold Nd.v Nd.zero at hG
  have hGH := Lib.hid hG
  have fin : ∀ W', Below W.heap.size W W' → (∃ xs : List {y : Nat // y ∈ ([] : List Nat)}, xs.map (·.1) = ([] : List Nat) ∧ J xs W') := fun W' hb => ⟨[], rfl, hJH.out _ _ _ J0.out (Mv.below hb)⟩
  have finH := Lib.hid fin
  clear hJ hJx hY h0 hB1 hB2 hBW hG fin
  refine callsIn_of_wp Tryz.func55 rfl trivial ?_ rfl
  simp only [Tryz.ntmps55, List.size_toArray, List.length_cons, List.length_nil, Nat.reduceAdd, Nat.reduceSub, Array.replicate_succ, Array.replicate_zero, List.push_toArray, List.append_toArray, List.nil_append, List.cons_append]
  by_cases hr : root = 0
  · subst hr
    gi_wp2_with fail
    refine hLi.out.mono ?_
    rintro e w1 ⟨rfl, rfl⟩
    gi_wp2_with fail
    gi_loopw [4, 6] (fun sv kv wr => sv = .slice none 0 0 ∧ kv = .int .i64 0 ∧ wr = W) (fun _ kv _ => (intOf kv).toNat)
    case atStart => exact ⟨rfl, rfl, rfl⟩
    case round =>
      obtain ⟨rfl, rfl, rfl⟩ := hrel
      gi_wp2_with fail
      gi_loopw [4, 6] (fun sv kv wi => sv = .slice none 0 0 ∧ kv = .int .i64 0 ∧ wi = wr) (fun _ kv _ => (intOf kv).toNat)
      case atStart => exact ⟨rfl, rfl, rfl⟩
      case round =>
        obtain ⟨rfl, rfl, rfl⟩ := hrel
        gi_wp2
        refine bodyPost_ret (v := .tuple #[]) (by simp [results, Tryz.f55, go_sem]) rfl ?_
        exact ⟨⟨_, rfl⟩, .inl (finH.out _ (Below.refl _ _))⟩
  · have dr : ((root : Int) != 0) = true := by simp; omega
    gi_wp2_with fail
    refine hLi.out.mono ?_
    rintro e w1 ⟨rfl, rfl⟩
    gi_wp2_with fail
    gi_loopw [4, 6] (fun sv kv wr => sv = .slice none 0 0 ∧ kv = .int .i64 0 ∧ wr = W) (fun _ kv _ => (intOf kv).toNat)
    case atStart => exact ⟨rfl, rfl, rfl⟩
    case round =>
      obtain ⟨rfl, rfl, rfl⟩ := hrel
      gi_wp2_with fail
      gi_loopw [4, 6] (fun sv kv wi => sv = .slice none 0 0 ∧ kv = .int .i64 0 ∧ wi = wr) (fun _ kv _ => (intOf kv).toNat)
      case atStart => exact ⟨rfl, rfl, rfl⟩
      case round =>
        obtain ⟨rfl, rfl, rfl⟩ := hrel
        gi_wp2_with fail
        refine hGH.out.mono ?_
        rintro e w2 ⟨rfl, hb2⟩
        have hz := hb2.size
        have hbH := Lib.hid (hb2.alloc hz (Obj.cells #[Value.int IntKind.u64 0, Value.int IntKind.u64 0, Value.int IntKind.u64 0, Value.int IntKind.u64 0, Value.int IntKind.u64 0, Value.int IntKind.u64 0] 50))
        clear hb2
        gi_wp2
        refine bodyPost_ret (v := .tuple #[]) (by simp [results, Tryz.f55, go_sem]) rfl ?_
        exact ⟨⟨_, rfl⟩, .inl (finH.out _ hbH.out)⟩
set_option maxRecDepth 100000 in
theorem in_calls_nil (x : Nat) (w : World) : Calls Tryz.prog 31 #[.pointer none, .int .u64 (x : Nat)] w fun e w' => e = .returned (.func (.func 55) #[] #[.pointer (some ⟨w.heap.size, 0, none⟩), .pointer (some ⟨w.heap.size + 1, 0, none⟩)]) ∧ w' = (w.alloc (.cells #[.pointer none] 26)).alloc (.cells #[.int .u64 (x : Nat)] 28) := by
  go_enter Tryz.func31, Tryz.ntmps31
  go_wp2
  go_ret
  exact ⟨rfl, rfl⟩
set_option maxHeartbeats 4000000 in
set_option maxRecDepth 100000 in
theorem list_nil (x : Nat) (w : World) : Calls Tryz.prog 21 #[.pointer none, .int .u64 (x : Nat)] w fun e w' => ∃ A c, e = .returned (.slice A 0 c) ∧ Below w.heap.size w w' := by
  refine (callsIn_wide (n := 9)).1 ?_
  have hIn := Lib.hid (fun w => (callsIn_wide (n := 8)).2 (in_calls_nil x w))
  refine callsIn_of_wp_marks Tryz.func21 rfl trivial ?_ rfl
  simp only [Tryz.ntmps21, List.size_toArray, List.length_cons, List.length_nil, Nat.reduceAdd, Nat.reduceSub, Array.replicate_succ, Array.replicate_zero, List.push_toArray, List.append_toArray, List.nil_append, List.cons_append]
  gi_wp2_with fail
  refine (hIn.out _).mono ?_
  rintro e w2 ⟨rfl, hW2⟩
  have hsz1 : (w.alloc (Obj.cells #[Value.slice none 0 0] 46)).heap.size = w.heap.size + 1 := by simp
  rw [hsz1]
  have hbx : Boxed w2 w.heap.size 46 (.slice none 0 0) := by rw [hW2]; exact ((Boxed.new w _ _).alloc _).alloc _
  have hx1 : w2.cell? ⟨w.heap.size + 1, 0, none⟩ = some (.pointer none) := by rw [hW2]; go_simp
  have hx2 : Boxed w2 (w.heap.size + 1 + 1) 28 (.int .u64 (x : Nat)) := by
    rw [hW2]
    have := Boxed.new ((w.alloc (Obj.cells #[Value.slice none 0 0] 46)).alloc (Obj.cells #[Value.pointer none] 26)) 28 (.int .u64 (x : Nat))
    rw [show ((w.alloc (Obj.cells #[Value.slice none 0 0] 46)).alloc (Obj.cells #[Value.pointer none] 26)).heap.size = w.heap.size + 1 + 1 by simp] at this
    exact this
  have hb2w : Below w.heap.size w w2 := by rw [hW2]; exact (((Below.refl _ w).alloc (Nat.le_refl _) _).alloc (by simp) _).alloc (by simp; omega) _
  have hz2' : w.heap.size + 3 ≤ w2.heap.size := by rw [hW2]; simp
  clear hW2 hsz1 hIn
  gi_wp2_with fail
  refine wpIn_rangeFunc_mv (α := {y : Nat // y ∈ ([] : List Nat)}) rfl (by omega) (gf := 55) (lb := #[.pointer (some ⟨w.heap.size + 1, 0, none⟩), .pointer (some ⟨w.heap.size + 1 + 1, 0, none⟩)]) rfl trivial (enters_of Tryz.func55 (by kernel_rfl) rfl)
    (in_nil (N := w.heap.size) (E := OutB w.heap.size) hx1 hx2)
    (fun A B hm k o hk ho => hm.keep k o hk (.inr (.inr ho)))
    (fun h k => h.trans k) (fun W l o o' hl' hl h1 h2 => ⟨KB.putObj o' hl h1 h2, fun k hk => .inl (outB_cell (World.cell?_of_block (a := ⟨w.heap.size, 0, none⟩) (World.putObj_heap_other (by simp; omega))) k hk)⟩) (Below.refl _ _) (fun _ => rfl)
    (fun pre W => RowI w 46 28 (hsV (pre.map (fun (z : {y : Nat // y ∈ ([] : List Nat)}) => z.1))) W)
    (fun cd pre W => False)
    (rowI_own w _ _ (fun pre : List {y : Nat // y ∈ ([] : List Nat)} => hsV (pre.map (fun (z : {y : Nat // y ∈ ([] : List Nat)}) => z.1))) _ (by omega))
    (fun _ _ _ _ _ hs _ _ => hs)
    (fun s A B hs hm => rowI_mv hs hm)
    (fun c s A B hs hm => hs)
    ⟨_, hbx, World.ownsRow_nil _ _ _ _, hb2w⟩
    (fun z a' W => False)
    (fun _ _ _ _ _ _ hs _ _ => hs)
    ?assign ?body ?done ?stop
  case assign =>
    rintro l pre ⟨y, hy⟩
    simp at hy
  case body =>
    rintro l pre ⟨z, hz⟩
    simp at hz
  case done =>
    rintro D' xs W hD hxs hi hK
    rw [hxs] at hi
    obtain ⟨v, hv, hrow, hb⟩ := hi
    rw [show (hsV ([] : List Nat)).length = 0 from rfl] at hrow
    obtain ⟨A, c, rfl⟩ := ownsRow_form hrow
    have hc := hv.cell
    have hbH := Lib.hid hb
    clear hb hrow hv hxs
    gi_wp2
    refine ⟨by simp, .inl ⟨_, _, rfl, run_takeDeferred hK, ?_⟩⟩
    refine ⟨.slice A 0 c, by simp [results, Tryz.f21, go_sem], A, c, rfl, ?_⟩
    exact hbH.out.trans (belowK_b (w := w) (Nat.le_refl _) _ D' _ _ (by omega) hK rfl rfl)
  case stop =>
    rintro D' cd pre W hD hSp hf
    exact hf.elim
end Go.Proofs.YtdcglpagdnhkgaaGreatDoor
/- loftlaw11.WalkNone: the walk. -/
set_option linter.unusedVariables false
set_option linter.unusedSimpArgs false
namespace Go.Proofs.YtdcglpagdnhkgaaGreatDoor
open Go.RowKit Go.Shelf
set_option maxHeartbeats 1000000 in
set_option maxRecDepth 100000 in
theorem none_0 {w : World} (hT : Tab w) (x : Nat) (key : ByteArray) (k : Int) (hk : 1000 < key.size) (hk2 : key.size ≤ 9223372036854775807) :
    Calls Tryz.prog 7 #[.int .u64 (x : Nat), .string key, .int .i64 k] w (TrueB w) := by
  have hA := Lib.hid (awake_at hT)
  clear hT
  unfold TrueB
  go_enter Tryz.func7, Tryz.ntmps7
  go_wp2_with fail
  refine hA.out.mono ?_
  rintro e w1 ⟨rfl, hb1⟩
  have hbH := Lib.hid hb1
  clear hb1
  go_wp2
  go_ret
  exact ⟨rfl, hbH.out⟩
set_option maxHeartbeats 4000000 in
set_option maxRecDepth 100000 in
theorem none_main {w : World} (hT : Tab w) (x : Nat) (hx : x < 18446744073709551616) (key : ByteArray) (k : Int) (hk : key.size ≤ 1000) :
    Calls Tryz.prog 7 #[.int .u64 (x : Nat), .string key, .int .i64 k] w (TrueB w) := by
  have hTH := Lib.hid hT
  have hM : Calls Tryz.prog 12 #[.slice none 0 0, .slice none 0 0] w (MadePost w []) :=
    made_at hT (A := none) (c := 0) (l := []) (.inl rfl) (by simp) (by simp) (c' := 0) (A' := none) (zs := []) (by simp) (by simp) (.inl rfl)
  have hMH := Lib.hid hM
  clear hT hM
  unfold TrueB
  go_enter Tryz.func7, Tryz.ntmps7
  go_wp2_with fail
  refine hMH.out.mono ?_
  rintro e w1 ⟨s, t, F, R, H, B, cB, rfl, hmo⟩
  have htn : t = .nil := by
    cases t with
    | nil => rfl
    | node a b c d e f l r => have := hmo.prs; simp [BT.prs] at this
  subst htn
  obtain ⟨n, hTR, _⟩ := hmo.tree (l0 := []) rfl
  have hTR1 := Lib.hid hTR
  have hRx : Hid (R x = none) := Lib.hid (hmo.out.old x (by simp [BT.hs]))
  have hb1 := Lib.hid hmo.bel
  have hT1 := Lib.hid (hTH.out.below hmo.bel (tab_lt hTH.out))
  clear hmo hTR hMH
  go_wp2_with fail
  refine (find_nil _ _ _).mono ?_
  rintro e w2 ⟨rfl, hb2⟩
  have hb2H := Lib.hid hb2
  clear hb2
  go_wp2_with fail
  refine (at_nil _ _ _).mono ?_
  rintro e w3 ⟨rfl, rfl⟩
  go_wp2_with fail
  refine (pair_nil _ _).mono ?_
  rintro e w3 ⟨rfl, hb3⟩
  have hb3H := Lib.hid (hb2H.out.trans (hb3.mono hb2H.out.size))
  have hz3 := hb3H.out.size
  have hb4H := Lib.hid (hb3H.out.alloc hz3 (Obj.cells #[Value.string ⟨#[]⟩, Value.string ⟨#[]⟩] 39))
  have c0 : (w3.alloc (Obj.cells #[Value.string ⟨#[]⟩, Value.string ⟨#[]⟩] 39)).cell? ⟨w3.heap.size, 0, none⟩ = some (.string ⟨#[]⟩) := by go_simp
  have c1 : (w3.alloc (Obj.cells #[Value.string ⟨#[]⟩, Value.string ⟨#[]⟩] 39)).cell? ⟨w3.heap.size, 1, none⟩ = some (.string ⟨#[]⟩) := by go_simp
  clear hb3
  go_wp2_with fail
  refine (check_nil _ _).mono ?_
  rintro e w5 ⟨rfl, hb5⟩
  have hb5H := Lib.hid (hb4H.out.trans (hb5.mono hb4H.out.size))
  clear hb5
  go_wp2_with fail
  refine (wfree_nil _ _).mono ?_
  rintro e w6 ⟨rfl, hb6⟩
  have hb6H := Lib.hid (hb5H.out.trans (hb6.mono hb5H.out.size))
  clear hb6
  go_wp2_with fail
  refine (size_nil _ _).mono ?_
  rintro e w7 ⟨rfl, hb7⟩
  have hb7H := Lib.hid (hb6H.out.trans (hb7.mono hb6H.out.size))
  clear hb7
  go_wp2_with fail
  refine (rank_nil _ _ _).mono ?_
  rintro e w8 ⟨rfl, hb8⟩
  have hb8H := Lib.hid (hb7H.out.trans (hb8.mono hb7H.out.size))
  clear hb8
  go_wp2_with fail
  refine (list_nil _ _).mono ?_
  rintro e w9 ⟨A9, c9, rfl, hb9⟩
  have hb9H := Lib.hid (hb8H.out.trans (hb9.mono hb8H.out.size))
  clear hb9
  have hrd9 := Lib.hid (hTR1.out.below hb9H.out)
  have hC := fun W (hb : Below w9.heap.size w9 W) => check_at (hrd9.out.rd.below hb) hrd9.out.sh x hx
  have hAw := Lib.hid (fun W (hb : Below w9.heap.size w9 W) => awake_at (hT1.out.below (hb9H.out.trans (hb.mono hb9H.out.size)) (tab_lt hT1.out)))
  by_cases hx0 : x = 0
  · subst hx0
    have hCH := Lib.hid (fun W (hb : Below w9.heap.size w9 W) => by have := hC W hb; rw [show checkR R n 0 = 0 from if_pos rfl, show ((0 : Nat) : Int) = 0 from rfl] at this; exact this)
    have hFr := Lib.hid (fun W (hb : Below w9.heap.size w9 W) => by have := wfree_nilTree (hrd9.out.rd.below hb) hrd9.out.sh; rw [show ((0 : Nat) : Int) = 0 from rfl] at this; exact this)
    have hSz := fun W (hb : Below w9.heap.size w9 W) => tsize_at (hrd9.out.below hb)
    rw [show ((BT.root .nil : Nat) : Int) = 0 from rfl, show ((([] : List Pr).length : Nat) : Int) = 0 from rfl] at hSz
    have hLi := fun W (hb : Below w9.heap.size w9 W) => tlist_at (hrd9.out.below hb)
    rw [show ((BT.root .nil : Nat) : Int) = 0 from rfl] at hLi
    have hSzH := Lib.hid hSz
    have hLiH := Lib.hid hLi
    clear hC hSz hLi
    go_wp2_with fail
    refine (hCH.out _ (Below.refl _ _)).mono ?_
    rintro e w10 ⟨rfl, hb10⟩
    have hb10H := Lib.hid hb10
    clear hb10
    go_wp2_with fail
    refine (hFr.out _ hb10H.out).mono ?_
    rintro e w11 ⟨rfl, hb11⟩
    have hb11H := Lib.hid (hb10H.out.trans (hb11.mono hb10H.out.size))
    clear hb11
    go_wp2_with fail
    refine (hSzH.out _ hb11H.out).mono ?_
    rintro e w12 ⟨rfl, hb12⟩
    have hb12H := Lib.hid (hb11H.out.trans (hb12.mono hb11H.out.size))
    clear hb12
    go_wp2_with fail
    refine (hLiH.out _ hb12H.out).mono ?_
    rintro e w13 ⟨v13, rfl, hro, hb13⟩
    obtain ⟨A13, c13, rfl⟩ := ownsRow_form hro
    have hb13H := Lib.hid (hb12H.out.trans (hb13.mono hb12H.out.size))
    clear hb13 hro
    go_wp2_with fail
    refine (hAw.out _ hb13H.out).mono ?_
    rintro e w14 ⟨rfl, hb14⟩
    have hb14H := Lib.hid (hb1.out.trans ((hb9H.out.trans ((hb13H.out.trans (hb14.mono hb13H.out.size)).mono hb9H.out.size)).mono hb1.out.size))
    clear hb14
    go_wp2
    go_ret
    exact ⟨rfl, hb14H.out⟩
  · have hCH := Lib.hid (fun W (hb : Below w9.heap.size w9 W) => by have := hC W hb; rw [check_gone n x hx0 hRx.out] at this; exact this)
    have hFr := Lib.hid (fun W (hb : Below w9.heap.size w9 W) => by
      have := wfree_err (hrd9.out.rd.below hb) hrd9.out.sh x hx (by rw [check_gone n x hx0 hRx.out]; decide)
      rw [check_gone n x hx0 hRx.out] at this
      exact this)
    have dx : ((x : Int) == 0) = false := by simp; omega
    have dx2 : ((x : Int) != 0) = true := by simp; omega
    clear hC
    go_wp2_with fail
    refine (hCH.out _ (Below.refl _ _)).mono ?_
    rintro e w10 ⟨rfl, hb10⟩
    have hb10H := Lib.hid hb10
    clear hb10
    go_wp2_with fail
    refine (hFr.out _ hb10H.out).mono ?_
    rintro e w11 ⟨rfl, hb11⟩
    have hb11H := Lib.hid (hb10H.out.trans (hb11.mono hb10H.out.size))
    clear hb11
    go_wp2_with fail
    refine (hAw.out _ hb11H.out).mono ?_
    rintro e w12 ⟨rfl, hb12⟩
    have hb12H := Lib.hid (hb1.out.trans ((hb9H.out.trans ((hb11H.out.trans (hb12.mono hb11H.out.size)).mono hb9H.out.size)).mono hb1.out.size))
    clear hb12
    go_wp2
    go_ret
    exact ⟨rfl, hb12H.out⟩
end Go.Proofs.YtdcglpagdnhkgaaGreatDoor

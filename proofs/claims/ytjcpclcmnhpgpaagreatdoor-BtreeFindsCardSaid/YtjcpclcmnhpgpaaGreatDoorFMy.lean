/-
  The seat's own texts, part y: BnW4, BnW5.
-/
import Derived.Test.YtjcpclcmnhpgpaaGreatDoorFMv
import Derived.Test.YtjcpclcmnhpgpaaGreatDoorFMx

set_option linter.unusedVariables false
set_option linter.unusedSimpArgs false
namespace Go.Proofs.YtjcpclcmnhpgpaaGreatDoor
open Go.RowKit Go.Shelf
attribute [local go_sem] Oper.semAt_some wide_fn
structure BN.Ok (n : BN) : Prop where
  keys : ∀ x ∈ n.keys, x < 18446744073709551616
  vals : ∀ x ∈ n.vals, x < 18446744073709551616
  kids : ∀ x ∈ n.kids, x < 18446744073709551616
  size : n.size < 18446744073709551616
theorem getD_lt {l : List Nat} (h : ∀ x ∈ l, x < 18446744073709551616) (i : Nat) : l.getD i 0 < 18446744073709551616 := by
  rw [List.getD_eq_getElem?_getD]
  cases hi : l[i]? with
  | none => simp
  | some x => exact h x (List.mem_of_getElem? hi)
theorem BN.Ok.at' {n : BN} (h : n.Ok) {t : Nat} (hf : n.keys.length < 18446744073709551616) (i : Nat) : n.wdAt t i < 18446744073709551616 := by
  unfold BN.wdAt
  split
  · exact hf
  · split
    · exact h.size
    · split
      · split
        · exact getD_lt h.keys _
        · exact getD_lt h.vals _
      · exact getD_lt h.kids _
def setW (ws ws0 l : List Nat) : List Nat := (List.range ws0.length).map fun i => if i ∈ l then ws.getD i 0 else ws0.getD i 0
theorem setW_len (ws ws0 l : List Nat) : (setW ws ws0 l).length = ws0.length := by simp [setW]
theorem setW_nil (ws ws0 : List Nat) : setW ws ws0 [] = ws0 := by
  refine List.ext_getElem (by simp [setW]) fun i h1 h2 => ?_
  simp [setW, h2]
theorem setW_snoc {ws ws0 l : List Nat} {z : Nat} (hz : z < ws.length) : (setW ws ws0 l).set z (ws[z]) = setW ws ws0 (l ++ [z]) := by
  refine List.ext_getElem (by simp [setW]) fun i h1 h2 => ?_
  rw [List.getElem_set]
  simp only [setW, List.getElem_map, List.getElem_range, List.mem_append, List.mem_singleton]
  by_cases e : z = i
  · subst e; simp [hz]
  · rw [if_neg e]
    have : i ≠ z := fun h => e h.symm
    simp [this]
theorem setW_all {ws ws0 : List Nat} (h : ws.length = ws0.length) : setW ws ws0 (List.range ws.length) = ws := by
  refine List.ext_getElem (by simp [setW, h]) fun i h1 h2 => ?_
  simp [setW, h2]
theorem StoreIs.own {A B : World} {row : Option Nat} {N s : Nat} {F : Nat → Prop} {R : Nat → Option (List Nat)} {H : List Nat} {P q most last G : Nat} (h : StoreIs A s F R H P q most last G) (hF : ∀ b, F b → b < N) (hg : A.grownBy B row) (hr : ∀ r, row = some r → N ≤ r ∧ ∃ o : Obj, A.heap[r]? = some o ∧ o.isCells = false) : StoreIs B s F R H P q most last G := by
  have hno : ∀ {p : Addr} {v : Value}, A.cell? p = some v → row ≠ some p.block := fun hc e => by
    obtain ⟨o, h1, h2⟩ := cell_obj hc
    obtain ⟨_, o', h3, h4⟩ := hr _ e
    rw [h1] at h3
    cases h3
    rw [h2] at h4
    cases h4
  refine h.kb (Cs := fun k => row = some k) ⟨hg.size, fun k o hk _ hn => (hg.block k (Array.getElem?_eq_some_iff.1 hk).1 (fun e => hn e.symm)).trans hk⟩ (fun k e hf => by have := hF k hf; have := (hr k e).1; omega) ?_ (fun k e p hc => hno hc e) ?_
  · obtain ⟨a, ha, t, v, L, mem, sl, Fh, h⟩ := h
    exact hno (p := ⟨s, 2, none⟩) h.ca
  · obtain ⟨a, ha, t, v, L, mem, sl, Fh, h⟩ := h
    obtain ⟨⟨mb, D, k1, rfl⟩, k2, k3⟩ := h.heap
    exact hno (p := ⟨1, 0, none⟩) (k1.tab 0 (by decide))
theorem Turn.own {w A B : World} {row : Option Nat} {N : Nat} {F F' : Nat → Prop} (h : Turn w F A F') (hN : w.heap.size ≤ N) (hg : A.grownBy B row) (hr : ∀ r, row = some r → N ≤ r) : Turn w F B F' :=
  ⟨hg.os.trans h.os, hg.tape.trans h.tape, hg.output.trans h.output, Nat.le_trans h.size hg.size, fun k hk hn => (hg.block k (Nat.lt_of_lt_of_le hk h.size) (fun e => by have := hr k e.symm; omega)).trans (h.keep k hk hn), h.grow⟩
theorem KeepsFrom.turn {A B : World} {F F' : Nat → Prop} {N : Nat} (h : Turn A F B F') (hF : ∀ b, F b → b < N) : KeepsFrom N A B :=
  ⟨h.size, fun k o hk ho _ => (h.keep k (Array.getElem?_eq_some_iff.1 ho).1 (fun hf => by have := hF k hf; omega)).trans ho⟩
def BPut (w : World) (s : Nat) (F : Nat → Prop) (R : Nat → Option (List Nat)) (H : List Nat) (P q most last G t x : Nat) (n : BN) (e : Ending) (w' : World) : Prop :=
  e = .returned (.int .i64 (bputE R t x n : Nat)) ∧ StoreIs w' s F (bputR R t x n) H P q most last G ∧ Turn w F w' F
section
variable {w w' : World} {s : Nat} {F : Nat → Prop} {R : Nat → Option (List Nat)} {H : List Nat} {P q most last G : Nat}
set_option maxHeartbeats 4000000 in
set_option maxRecDepth 100000 in
theorem bnPut_at (h : StoreIs w s F R H P q most last G) (t : Nat) (ht : BN.Deg t) (x : Nat) (hx : x < 18446744073709551616) {v : Value} {n : BN} (hv : BNV w F v n) (hok : n.Ok) :
    Calls Tryz.prog 31 #[.pointer (some ⟨s, 0, none⟩), .int .i64 (t : Nat), .int .u64 (x : Nat), v] w (BPut w s F R H P q most last G t x n) := by
  refine (callsIn_wide (n := 9)).1 ?_
  obtain ⟨⟨Ak, ck, Av, cv, Ai, ci, rfl, k1, k2, k3⟩, ll⟩ := hv
  have hwlt := Lib.hid (fun i => hok.at' (t := t) (by have := ll.1; omega) i)
  have hV := Lib.hid (fun W (hb : Below w.heap.size w W) => (⟨⟨Ak, ck, Av, cv, Ai, ci, rfl, k1.turn (Turn.below hb), k2.turn (Turn.below hb), k3.turn (Turn.below hb)⟩, ll⟩ : BNV W F _ n))
  have hL0 := fun W (hb : Below w.heap.size w W) => (callsIn_wide (n := 8)).2 (slen_at (h.below hb) 0 (by decide))
  obtain ⟨la, lb, hlr, hl1⟩ := lenR_form R 0
  rw [hlr] at hL0
  have d1 : ((lb : Int) == 1) = false := by simp; omega
  have hL0H := Lib.hid hL0
  have hLx := Lib.hid (fun W (hb : Below w.heap.size w W) => (callsIn_wide (n := 8)).2 (slen_at (h.below hb) x hx))
  have hFt := Lib.hid (fun W (hb : Below w.heap.size w W) => (callsIn_wide (n := 8)).2 (bnFits_at (hV.out W hb) t ht))
  have hWd := Lib.hid (fun W (hb : Below w.heap.size w W) (hf : n.Fits t) => (callsIn_wide (n := 8)).2 (bwords_at (hV.out W hb) t ht hf))
  have hS := Lib.hid h
  have t1 := ht.1
  have t2 := ht.2
  have hbA := ((((Below.refl _ w).alloc (Nat.le_refl _) (Obj.cells #[.pointer (some ⟨s, 0, none⟩)] 25)).alloc (by simp) (Obj.cells #[.int .u64 (x : Nat)] 31)).alloc (by simp; omega) (Obj.cells #[.slice Ak n.keys.length ck, .slice Av n.vals.length cv, .slice Ai n.kids.length ci, .int .u64 (n.size : Nat)] 66))
  obtain ⟨W0, hW0⟩ : ∃ W, W = (((w.alloc (Obj.cells #[.pointer (some ⟨s, 0, none⟩)] 25)).alloc (Obj.cells #[.int .u64 (x : Nat)] 31)).alloc (Obj.cells #[.slice Ak n.keys.length ck, .slice Av n.vals.length cv, .slice Ai n.kids.length ci, .int .u64 (n.size : Nat)] 66)) := ⟨_, rfl⟩
  rw [← hW0] at hbA
  have c1 : W0.cell? ⟨w.heap.size, 0, none⟩ = some (.pointer (some ⟨s, 0, none⟩)) := by rw [hW0]; go_simp
  have c2 : W0.cell? ⟨w.heap.size + 1, 0, none⟩ = some (.int .u64 (x : Nat)) := by rw [hW0]; go_simp
  have c30 : W0.cell? ⟨w.heap.size + 1 + 1, 0, none⟩ = some (.slice Ak n.keys.length ck) := by rw [hW0]; go_simp
  have c31 : W0.cell? ⟨w.heap.size + 1 + 1, 1, none⟩ = some (.slice Av n.vals.length cv) := by rw [hW0]; go_simp
  have c32 : W0.cell? ⟨w.heap.size + 1 + 1, 2, none⟩ = some (.slice Ai n.kids.length ci) := by rw [hW0]; go_simp
  have c33 : W0.cell? ⟨w.heap.size + 1 + 1, 3, none⟩ = some (.int .u64 (n.size : Nat)) := by rw [hW0]; go_simp
  have hbAH := Lib.hid hbA
  have hW0H := Lib.hid hW0
  have hz0 : w.heap.size + 3 ≤ W0.heap.size := by rw [hW0]; simp
  clear k1 k2 k3 hL0 hl1 hlr h hok hbA hW0 ht
  refine callsIn_of_wp_marks Tryz.func31 rfl trivial ?_ rfl
  simp only [Tryz.ntmps31, List.size_toArray, List.length_cons, List.length_nil, Nat.reduceAdd, Nat.reduceSub, Array.replicate_succ, Array.replicate_zero, List.push_toArray, List.append_toArray, List.nil_append, List.cons_append]
  gi_wp2_with fail
  rw [← hW0H.out]
  refine (hL0H.out _ hbAH.out).mono ?_
  rintro e w1 ⟨rfl, rfl⟩
  gi_wp2_with fail
  refine (hFt.out _ hbAH.out).mono ?_
  rintro e w2 ⟨rfl, hb2⟩
  have d1' := (hb2.cell (p := ⟨w.heap.size, 0, none⟩) (cell_lt c1)).trans c1
  have d2' := (hb2.cell (p := ⟨w.heap.size + 1, 0, none⟩) (cell_lt c2)).trans c2
  have d30 := (hb2.cell (p := ⟨w.heap.size + 1 + 1, 0, none⟩) (cell_lt c30)).trans c30
  have d31 := (hb2.cell (p := ⟨w.heap.size + 1 + 1, 1, none⟩) (cell_lt c31)).trans c31
  have d32 := (hb2.cell (p := ⟨w.heap.size + 1 + 1, 2, none⟩) (cell_lt c32)).trans c32
  have d33 := (hb2.cell (p := ⟨w.heap.size + 1 + 1, 3, none⟩) (cell_lt c33)).trans c33
  have hb2H := Lib.hid (hbAH.out.trans (hb2.mono hbAH.out.size))
  have hz2 : w.heap.size + 3 ≤ w2.heap.size := Nat.le_trans hz0 hb2.size
  clear c1 c2 c30 c31 c32 c33 hb2 hFt hL0H hz0 hW0H
  by_cases hf : n.Fits t
  · rw [decide_eq_true hf]
    cases hR : R x with
    | none =>
      rw [lenR_none hR] at hLx
      have hfin : Hid (BPut w s F R H P q most last G t x n (.returned (.int .i64 7)) w2) := Lib.hid (by
        have e : bputE R t x n = 7 := by unfold bputE; rw [if_neg (fun h => h hf), hR]
        refine ⟨by rw [e]; rfl, ?_, Turn.below hb2H.out⟩
        unfold bputR
        rw [if_neg (by rw [e]; simp)]
        exact hS.out.below hb2H.out)
      gi_wp2_with fail
      refine (hLx.out _ hb2H.out).mono ?_
      rintro e w3 ⟨rfl, rfl⟩
      gi_wp2
      refine ⟨.int .i64 7, ?_, hfin.out⟩
      simp [results, Tryz.f31, go_sem]
    | some ws0 =>
      rw [lenR_some hR] at hLx
      by_cases hl : ws0.length = 6 * t
      · have dl : (((ws0.length : Nat) : Int) != 6 * (t : Int)) = false := by simp; omega
        gi_wp2_with fail
        refine (hLx.out _ hb2H.out).mono ?_
        rintro e w3 ⟨rfl, rfl⟩
        gi_wp2_with fail
        refine (hWd.out _ hb2H.out hf).mono ?_
        rintro e w4 ⟨b, bx, rfl, hb1, hb2, hcx, hcb, hblt, hb4⟩
        have e1 := (hb4.cell (p := ⟨w.heap.size, 0, none⟩) (cell_lt d1')).trans d1'
        have e2 := (hb4.cell (p := ⟨w.heap.size + 1, 0, none⟩) (cell_lt d2')).trans d2'
        have hb4H := Lib.hid (hb2H.out.trans (hb4.mono hb2H.out.size))
        have hz4 : w.heap.size + 3 ≤ w4.heap.size := Nat.le_trans hz2 hb4.size
        have hcbH := Lib.hid hcb
        have hlx : bx < w4.heap.size := cell_lt hcx
        have hSt := Lib.hid (all_stops hcx hcb hblt (by rw [BN.wd_len]; omega))
        have hS4 := Lib.hid (hS.out.below hb4H.out)
        have hF4 := Lib.hid (fun b (hf : F b) => hS4.out.lt hf)
        have hFw := Lib.hid (fun b (hf : F b) => hS.out.lt hf)
        clear d1' d2' d30 d31 d32 d33 hb4 hb2H hcb hLx hWd hV hcx
        gi_wp2_with fail
        have hI0 : StoreIs w4 s F (updR R x (some (setW (n.wd t) ws0 (([] : List {z : Nat // z < (n.wd t).length}).map (fun (z : {z : Nat // z < (n.wd t).length}) => z.1))))) H P q most last G ∧ Turn w4 F w4 F := by
          refine ⟨?_, Turn.refl _ _⟩
          rw [List.map_nil, setW_nil, show updR R x (some ws0) = R from by
            funext y; unfold updR; split
            · next h => rw [h, hR]
            · rfl]
          exact hS4.out
        refine wpIn_rangeFunc_ownH (α := {z : Nat // z < (n.wd t).length}) rfl (by omega) (gf := 121) (lb := #[.pointer (some ⟨bx, 0, none⟩)]) rfl trivial (enters_of Tryz.func121 (by kernel_rfl) rfl)
          hSt.out (fun h k => h.trans k) (fun W l o o' hl' hl h1 h2 => KeepTwo.put W _ (by omega) (by omega)) (Below.refl _ _) (fun _ => rfl)
          (fun (pre : List {z : Nat // z < (n.wd t).length}) W => StoreIs W s F (updR R x (some (setW (n.wd t) ws0 (pre.map (fun (z : {z : Nat // z < (n.wd t).length}) => z.1))))) H P q most last G ∧ Turn w4 F W F)
          (fun cd pre W => False)
          (fun pre A B row hs hg hr => ⟨hs.1.own hF4.out hg hr, hs.2.own (Nat.le_refl _) hg (fun r e => (hr r e).1)⟩)
          (fun _ _ _ _ _ hs _ _ => hs)
          hI0
          (fun z a' W => a' = { tmps := #[Value.pointer (some { block := s, off := 0 }), Value.int IntKind.i64 ((t : Nat) : Int), Value.int IntKind.u64 ((x : Nat) : Int), Value.agg #[Value.slice Ak n.keys.length ck, Value.slice Av n.vals.length cv, Value.slice Ai n.kids.length ci, Value.int IntKind.u64 ((n.size : Nat) : Int)], Value.pointer (some { block := w.heap.size, off := 0 }), undef, Value.pointer (some { block := w.heap.size + 1, off := 0 }), Value.pointer (some { block := w.heap.size + 1 + 1, off := 0 }), Value.int IntKind.i64 0, Value.int IntKind.i64 ((la : Nat) : Int), Value.int IntKind.i64 ((lb : Nat) : Int), Value.int IntKind.i64 (6 * ((t : Nat) : Int)), Value.int IntKind.i64 0, Value.int IntKind.i64 (z.1 : Nat), Value.int IntKind.u64 ((n.wd t)[z.1]'z.2 : Nat), Value.tuple #[Value.int IntKind.i64 ((la : Nat) : Int), Value.int IntKind.i64 ((lb : Nat) : Int)], Value.pointer (some { block := s, off := 0 }), Value.tuple #[Value.int IntKind.i64 ((la : Nat) : Int), Value.int IntKind.i64 ((lb : Nat) : Int)], Value.int IntKind.i64 ((la : Nat) : Int), Value.int IntKind.i64 ((lb : Nat) : Int), Value.int IntKind.i64 ((lb : Nat) : Int), Value.bool false, undef, Value.int IntKind.i64 ((t : Nat) : Int), Value.agg #[Value.slice Ak n.keys.length ck, Value.slice Av n.vals.length cv, Value.slice Ai n.kids.length ci, Value.int IntKind.u64 ((n.size : Nat) : Int)], Value.bool true, Value.bool false, Value.tuple #[Value.int IntKind.i64 (6 * ((t : Nat) : Int)), Value.int IntKind.i64 0], Value.pointer (some { block := s, off := 0 }), Value.int IntKind.u64 ((x : Nat) : Int), Value.tuple #[Value.int IntKind.i64 (6 * ((t : Nat) : Int)), Value.int IntKind.i64 0], Value.int IntKind.i64 (6 * ((t : Nat) : Int)), Value.int IntKind.i64 0, Value.bool false, Value.int IntKind.i64 0, Value.bool false, undef, Value.bool false, Value.int IntKind.i64 (6 * ((t : Nat) : Int)), Value.int IntKind.i64 ((t : Nat) : Int), Value.int IntKind.i64 (6 * ((t : Nat) : Int)), Value.bool false, Value.int IntKind.i64 ((t : Nat) : Int), Value.agg #[Value.slice Ak n.keys.length ck, Value.slice Av n.vals.length cv, Value.slice Ai n.kids.length ci, Value.int IntKind.u64 ((n.size : Nat) : Int)], Value.func (Fn.func 121) #[] #[Value.pointer (some { block := bx, off := 0 })], Value.int IntKind.i64 (z.1 : Nat), Value.int IntKind.u64 ((n.wd t)[z.1]'z.2 : Nat), undef, undef, undef, undef, undef], defers := [] })
          (fun _ _ _ _ _ _ hs _ _ => hs)
          ?assign ?body ?done ?stop
        case assign =>
          rintro l pre ⟨z, hz⟩ W K hi hK
          dsimp only at hK ⊢
          gi_wp2
          exact hK _ W (KeepsOthers.refl _ |>.from _) (KeepTwo.refl _ _ _) hi rfl
        case body =>
          rintro l pre ⟨z, hz⟩ a' W hl' ⟨r, hr⟩ ⟨hs, hT⟩ rfl hlen
          dsimp only
          have q1 := hT.cell e1 (fun hf => by have := hFw.out _ hf; simp only at this; omega)
          have q2 := hT.cell e2 (fun hf => by have := hFw.out _ hf; simp only at this; omega)
          have hz' : z < ws0.length := by rw [hl, ← BN.wd_len t n]; exact hz
          have hPt := sput_at hs (x := x) (i := z) (u := (n.wd t)[z]) (ws := setW (n.wd t) ws0 (pre.map (·.1))) (updR_same _ _ _) (by rw [setW_len]; exact hz') (by rw [BN.wd_get]; exact hwlt.out z)
          rw [updR_twice, setW_snoc hz] at hPt
          have hP := Lib.hid (CallsIn.inRound l ((callsIn_wide (n := 6)).2 hPt))
          have hTH := Lib.hid hT
          have hnext : Hid ((pre ++ [(⟨z, hz⟩ : {z : Nat // z < (n.wd t).length})]).map (·.1) = pre.map (·.1) ++ [z]) := Lib.hid (by rw [List.map_append]; rfl)
          clear hPt hs hT
          generalize (n.wd t)[z] = wz at *
          gi_wp2_with fail
          refine hP.out.mono ?_
          rintro e W2 ⟨rfl, hS2, hT2⟩
          have hfin : Hid (KeepsFrom w4.heap.size W W2 ∧ KeepTwo b bx W W2 ∧ StoreIs W2 s F (updR R x (some (setW (n.wd t) ws0 ((pre ++ [(⟨z, hz⟩ : {z : Nat // z < (n.wd t).length})]).map (·.1))))) H P q most last G ∧ Turn w4 F W2 F) := Lib.hid (by
            have hzw := hTH.out.size
            refine ⟨KeepsFrom.turn hT2 hF4.out, KeepTwo.turn hT2 (by omega) (by omega) (fun hf => by have := hFw.out _ hf; omega) (fun hf => by have := hFw.out _ hf; omega), ?_, hTH.out.trans hT2⟩
            rw [hnext.out]; exact hS2)
          clear hS2 hT2 q1 q2
          gi_wp2
          exact hfin.out
        case done =>
          rintro D' xs W hD hxs ⟨hs, hT⟩ hK
          rw [hxs, setW_all (by rw [BN.wd_len, hl])] at hs
          have hfin : Hid (BPut w s F R H P q most last G t x n (.returned (.int .i64 0)) (W.putObj D' (.deferred none))) := Lib.hid (by
            have e : bputE R t x n = 0 := by unfold bputE; rw [if_neg (fun h => h hf), hR]; simp [hl]
            have hg := grownBy_putObj' W D' (.deferred none)
            refine ⟨by rw [e]; rfl, ?_, (Turn.below hb4H.out).trans (hT.own (Nat.le_refl _) hg (fun r e => by cases e; exact hD))⟩
            unfold bputR
            rw [if_pos e]
            exact hs.own hF4.out hg (fun r e => by cases e; exact ⟨hD, _, hK, rfl⟩))
          clear hs hT
          gi_wp2
          refine ⟨by simp, .inl ⟨_, _, rfl, run_takeDeferred hK, ?_⟩⟩
          exact ⟨.int .i64 0, by simp [results, Tryz.f31, go_sem], hfin.out⟩
        case stop =>
          rintro D' cd pre W hD hSp hf
          exact hf.elim
      · have hfin : Hid (BPut w s F R H P q most last G t x n (.returned (.int .i64 8)) w2) := Lib.hid (by
          have e : bputE R t x n = 8 := by unfold bputE; rw [if_neg (fun h => h hf), hR]; simp [hl]
          refine ⟨by rw [e]; rfl, ?_, Turn.below hb2H.out⟩
          unfold bputR
          rw [if_neg (by rw [e]; simp)]
          exact hS.out.below hb2H.out)
        have dl : (((ws0.length : Nat) : Int) != 6 * (t : Int)) = true := by simp; omega
        have w1 : IntKind.i64.wrap (6 * (t : Int)) = 6 * (t : Int) := by rw [IntKind.wrap_i64]; omega
        gi_wp2_with fail
        refine (hLx.out _ hb2H.out).mono ?_
        rintro e w3 ⟨rfl, rfl⟩
        gi_wp2
        refine ⟨.int .i64 8, ?_, hfin.out⟩
        simp [results, Tryz.f31, go_sem]
  · rw [decide_eq_false hf]
    have hfin : Hid (BPut w s F R H P q most last G t x n (.returned (.int .i64 2)) w2) := Lib.hid (by
      have e : bputE R t x n = 2 := by unfold bputE; rw [if_pos hf]
      refine ⟨by rw [e]; rfl, ?_, Turn.below hb2H.out⟩
      unfold bputR
      rw [if_neg (by rw [e]; simp)]
      exact hS.out.below hb2H.out)
    gi_wp2
    refine ⟨.int .i64 2, ?_, hfin.out⟩
    simp [results, Tryz.f31, go_sem]
end
end Go.Proofs.YtjcpclcmnhpgpaaGreatDoor

set_option linter.unusedVariables false
set_option linter.unusedSimpArgs false
namespace Go.Proofs.YtjcpclcmnhpgpaaGreatDoor
open Go.RowKit Go.Shelf
section
variable {w w' : World} {s : Nat} {F : Nat → Prop} {R : Nat → Option (List Nat)} {H : List Nat} {P q most last G : Nat}
set_option maxHeartbeats 4000000 in
set_option maxRecDepth 100000 in
theorem bnMake_at (h : StoreIs w s F R H P q most last G) (t : Nat) (ht : BN.Deg t) {v : Value} {n : BN} (hv : BNV w F v n) (hok : n.Ok) (hf : n.Fits t) :
    Calls Tryz.prog 73 #[.pointer (some ⟨s, 0, none⟩), .int .i64 (t : Nat), v] w (MadeW w s F R H P q most last G (n.wd t)) := by
  have hokH := Lib.hid hok
  have hvH := Lib.hid hv
  obtain ⟨⟨Ak, ck, Av, cv, Ai, ci, rfl, k1, k2, k3⟩, ll⟩ := hv
  have t1 := ht.1
  have t2 := ht.2
  have hb0 : Below w.heap.size w (w.alloc (Obj.cells #[.slice Ak n.keys.length ck, .slice Av n.vals.length cv, .slice Ai n.kids.length ci, .int .u64 (n.size : Nat)] 66)) := (Below.refl _ w).alloc (Nat.le_refl _) _
  have hbx := Box.new w 66 [.slice Ak n.keys.length ck, .slice Av n.vals.length cv, .slice Ai n.kids.length ci, .int .u64 (n.size : Nat)]
  obtain ⟨W0, hW0⟩ : ∃ W, W = w.alloc (Obj.cells #[.slice Ak n.keys.length ck, .slice Av n.vals.length cv, .slice Ai n.kids.length ci, .int .u64 (n.size : Nat)] 66) := ⟨_, rfl⟩
  rw [← hW0] at hb0
  have hbx0 : Box W0 w.heap.size 66 [.slice Ak n.keys.length ck, .slice Av n.vals.length cv, .slice Ai n.kids.length ci, .int .u64 (n.size : Nat)] := by rw [hW0]; exact hbx
  have hL0 := slen_at (h.below hb0) 0 (by decide)
  obtain ⟨la, lb, hlr, hl1⟩ := lenR_form R 0
  rw [hlr] at hL0
  have d1 : ((lb : Int) == 1) = false := by simp; omega
  have hL0H := Lib.hid hL0
  have hFt := bnFits_at (hvH.out.turn (Turn.below (F := F) hb0)) t ht
  rw [decide_eq_true hf] at hFt
  have hFtH := Lib.hid hFt
  have hS := Lib.hid h
  have hb0H := Lib.hid hb0
  have hW0H := Lib.hid hW0
  have hfH := Lib.hid hf
  have hFn : Hid (¬ F w.heap.size) := Lib.hid (fun hf => by have := h.lt hf; omega)
  have c0 := hbx0.at' (i := 0) rfl
  have c1 := hbx0.at' (i := 1) rfl
  have c2 := hbx0.at' (i := 2) rfl
  have c3 := hbx0.at' (i := 3) rfl
  have hbxH := Lib.hid hbx0
  have wt : IntKind.i64.wrap (6 * (t : Int)) = 6 * (t : Int) := by rw [IntKind.wrap_i64]; omega
  clear hbx hbx0 hb0 hlr hl1 hL0 hFt h hok k1 k2 k3 hW0 hf
  go_enter Tryz.func73, Tryz.ntmps73
  go_wp2_with fail
  rw [← hW0H.out]
  refine hL0H.out.mono ?_
  rintro e w1 ⟨rfl, rfl⟩
  go_wp2_with fail
  refine hFtH.out.mono ?_
  rintro e w2 ⟨rfl, hb2⟩
  have hM := smake_at (hS.out.below (hb0H.out.trans (hb2.mono hb0H.out.size))) (6 * t) (by omega)
  push_cast at hM
  have hMH := Lib.hid hM
  have hb2H := Lib.hid (hb0H.out.trans (hb2.mono hb0H.out.size))
  have hbx2 := Lib.hid (hbxH.out.below hb2)
  clear hM hb2 c0 c1 c2 c3
  go_wp2_with fail
  refine hMH.out.mono ?_
  rintro e w3 (⟨x, F', hx0, hxn, hx64, rfl, hS3, hT3⟩ | ⟨er, F', rfl, her, hS3, hT3⟩)
  · have hT3H := Lib.hid ((Turn.below (F := F) hb2H.out).trans hT3)
    have hbx3 := hbx2.out.turn hT3 hFn.out
    have c0 := hbx3.at' (i := 0) rfl
    have c1 := hbx3.at' (i := 1) rfl
    have c2 := hbx3.at' (i := 2) rfl
    have c3 := hbx3.at' (i := 3) rfl
    have hPt := bnPut_at hS3 t ht x hx64 (hvH.out.turn hT3H.out) hokH.out
    have hPtH := Lib.hid hPt
    have hx0H := Lib.hid hx0
    clear hPt hS3 hT3 hbx3 hx0 hMH
    go_wp2_with fail
    refine hPtH.out.mono ?_
    rintro e w4 ⟨rfl, hS4, hT4⟩
    have e0 : bputE (updR R x (some (List.replicate (6 * t) 0))) t x n = 0 := by
      unfold bputE
      rw [if_neg (fun h => h hfH.out), updR_same]
      simp
    have hS5 : StoreIs w4 s F' (updR R x (some (n.wd t))) (x :: H) (P + pgsN ((n.wd t).length + 2)) q most last (G + 1) := by
      rw [BN.wd_len]
      unfold bputR at hS4
      rw [if_pos e0, updR_twice] at hS4
      exact hS4
    have hfin : Hid (MadeW w s F R H P q most last G (n.wd t) (.returned (.tuple #[.int .u64 (x : Nat), .int .i64 0])) w4) := Lib.hid (.inl ⟨x, F', hx0H.out, hxn, hx64, rfl, hS5, hT3H.out.trans hT4⟩)
    rw [e0]
    clear hS4 hS5 hT4 hPtH
    go_wp2
    go_ret2
    exact hfin.out
  · have d2 : ((er : Int) != 0) = true := by simp; omega
    have hfin : Hid (MadeW w s F R H P q most last G (n.wd t) (.returned (.tuple #[.int .u64 0, .int .i64 (er : Nat)])) w3) := Lib.hid (.inr ⟨er, F', rfl, by rw [BN.wd_len]; exact her, by rw [BN.wd_len]; exact hS3, (Turn.below (F := F) hb2H.out).trans hT3⟩)
    clear hS3 hT3 hMH her
    go_wp2
    go_ret2
    exact hfin.out
end
section
variable {w w' : World} {s N : Nat} {R : Nat → Option (List Nat)} {n : Nat}
set_option maxRecDepth 100000 in
theorem bnW_at (h : Rd N w s R n) {x i bs bh : Nat} {ws : List Nat} (hR : R x = some ws) (hi : i < ws.length) (h1 : w.cell? ⟨bs, 0, none⟩ = some (.pointer (some ⟨s, 0, none⟩))) (h2 : w.cell? ⟨bh, 0, none⟩ = some (.int .u64 (x : Nat))) :
    Calls Tryz.prog 59 #[.int .i64 (i : Nat), .pointer (some ⟨bs, 0, none⟩), .pointer (some ⟨bh, 0, none⟩)] w fun e w' => e = .returned (.int .u64 (ws[i] : Nat)) ∧ w = w' := by
  have hG := Lib.hid (rget_at h hR hi)
  generalize ws[i] = u at *
  clear h hR hi
  go_enter Tryz.func59, Tryz.ntmps59
  go_wp2_with fail
  refine hG.out.mono ?_
  rintro e w1 ⟨rfl, rfl⟩
  go_wp2
  go_ret
  exact ⟨rfl, rfl⟩
end
end Go.Proofs.YtjcpclcmnhpgpaaGreatDoor

/-
  The seat's own texts, what PartsOrder wants besides: OpenB, OrdP14, OrdS14, Order14.
-/
import Derived.Test.YtjpmlneihbckpaaGreatDoorPe
import Derived.SizedLaws
import Derived.Laws.MakeOwn
import Derived.Laws.OwnMore
/- A row of pairs that is read: its size. -/
set_option linter.unusedVariables false
set_option linter.unusedSimpArgs false
namespace Go.Proofs.YtjpmlneihbckpaaGreatDoor
open Go.ChangeShapes Go.WideShapes Go.ChangeAt Go.WideMaps Go.WideElems Go.RowKit Go.Deep
section
variable {H : Type} {enc : TypeId × Value → H} {w : World} {base : Nat} {held : Bool}
theorem open_prs_data {fuel : Nat} {cs : List Value} {x : DataW H × List MemPlace} (h : DataW.trod enc Tryz.prog w base (fun _ => true) held fuel 22 cs = some x) : ∃ A len cap, cs = [.slice A len cap] ∧ (len = 0 ∨ ∃ elems sp, x.1 = .slice elems sp ∧ elems.length = len) := by
  rcases open_slice_pairs Tryz.underlying22 Tryz.underlying46 (by kernel_rfl) rfl rfl (by kernel_rfl) (by kernel_rfl) h with ⟨hcs, _⟩ | ⟨a, len, cap, m, n, V0, V1, D0, D1, P0, P1, hcs, hb, hl, hm, hmm, hx, _⟩
  · exact ⟨none, 0, 0, hcs, .inl rfl⟩
  · exact ⟨some a, len, cap, hcs, .inr ⟨_, _, by rw [hx], by simp⟩⟩
theorem prs_bound {ts : List TypeId} {ds : List (DataW H)} (hw : (DataW.weightsEach Tryz.prog ts ds).all (· ≤ reachBytes) = true) {j fuel len cap : Nat} {A : Option Addr} {d : DataW H} {p : List MemPlace} (ht : ts[j]? = some 22) (hd : ds[j]? = some d)
    (h : DataW.trod enc Tryz.prog w base (fun _ => true) held fuel 22 [.slice A len cap] = some (d, p)) : len ≤ 4398046510976 := by
  obtain ⟨A', len', cap', hcs, hh⟩ := open_prs_data h
  simp only [List.cons.injEq, Value.slice.injEq, and_true] at hcs
  obtain ⟨rfl, rfl, rfl⟩ := hcs
  rcases hh with rfl | ⟨elems, sp, hx, hl⟩
  · omega
  · simp only at hx
    rw [hx] at hd
    have h1 := sized_slice hw ht hd Tryz.underlying22
    rw [show Tryz.prog.bytesOf 46 = 32 by kernel_rfl, show reachBytes = 140737488351232 from rfl] at h1
    omega
theorem ints_bound {ts : List TypeId} {ds : List (DataW H)} (hw : (DataW.weightsEach Tryz.prog ts ds).all (· ≤ reachBytes) = true) {j fuel len cap : Nat} {A : Option Addr} {d : DataW H} {p : List MemPlace} (ht : ts[j]? = some 60) (hd : ds[j]? = some d)
    (h : DataW.trod enc Tryz.prog w base (fun _ => true) held fuel 60 [.slice A len cap] = some (d, p)) : len ≤ 17592186043904 := by
  rcases open_ints Tryz.underlying60 Tryz.underlying3 (by kernel_rfl) h with ⟨hcs, _⟩ | ⟨a, len', cap', zs, hcs, hb, hl, hm, hz, hx, _, _⟩
  · simp only [List.cons.injEq, Value.slice.injEq, and_true] at hcs
    omega
  · simp only [List.cons.injEq, Value.slice.injEq, and_true] at hcs
    obtain ⟨-, rfl, rfl⟩ := hcs
    simp only [Prod.mk.injEq] at hx
    rw [hx.1] at hd
    have h1 := sized_slice hw ht hd Tryz.underlying60
    rw [show Tryz.prog.bytesOf 3 = 8 by kernel_rfl, show reachBytes = 140737488351232 from rfl] at h1
    have hzc : zs.length = cap := by simpa using hz
    have h2 : (lits (H := H) IntKind.i64 (zs.take len)).length = len := by simp [lits]; omega
    rw [h2] at h1
    omega
end
end Go.Proofs.YtjpmlneihbckpaaGreatDoor
/- Pairs of a sorted list, put in any order: plain law. -/
set_option linter.unusedVariables false
set_option linter.unusedSimpArgs false
namespace Go.Proofs.YtjpmlneihbckpaaGreatDoor
open Go.RowKit Go.Shelf
/-- those pairs whose mark is set -/
def sel (m : List Pr) (d : List Bool) : List Pr := ((m.zip d).filter (·.2)).map (·.1)
theorem sel_app {m1 m2 : List Pr} {d1 d2 : List Bool} (h : m1.length = d1.length) : sel (m1 ++ m2) (d1 ++ d2) = sel m1 d1 ++ sel m2 d2 := by
  unfold sel
  rw [List.zip_append h, List.filter_append, List.map_append]
theorem sel_cons (p : Pr) (b : Bool) (m : List Pr) (d : List Bool) : sel (p :: m) (b :: d) = if b then p :: sel m d else sel m d := by
  cases b <;> simp [sel]
theorem sel_sub : ∀ (m : List Pr) (d : List Bool), (sel m d).Sublist m
  | [], d => by simp [sel]
  | p :: m, [] => by simp [sel]
  | p :: m, b :: d => by
    rw [sel_cons]
    cases b
    · exact (sel_sub m d).cons p
    · exact (sel_sub m d).cons_cons p
theorem sel_none (m : List Pr) : sel m (List.replicate m.length false) = [] := by
  induction m with
  | nil => rfl
  | cons p m ih => rw [List.length_cons, List.replicate_succ, sel_cons]; simpa using ih
theorem sel_all : ∀ (m : List Pr) (d : List Bool), d.length = m.length → (∀ j, j < m.length → d[j]? = some true) → sel m d = m
  | [], d, _, _ => by simp [sel]
  | p :: m, [], h, _ => by simp at h
  | p :: m, b :: d, h, e => by
    have h0 := e 0 (by simp)
    simp only [List.getElem?_cons_zero, Option.some.injEq] at h0
    subst h0
    rw [sel_cons, if_pos rfl, sel_all m d (by simpa using h) (fun j hj => by simpa using e (j + 1) (by simpa using hj))]
theorem sel_at {m : List Pr} {d : List Bool} (hd : d.length = m.length) {k : Nat} (hk : k < m.length) {b : Bool} (h : d[k]? = some b) :
    sel m d = sel (m.take k) (d.take k) ++ ((if b then [m[k]] else []) ++ sel (m.drop (k + 1)) (d.drop (k + 1))) := by
  have hk' : k < d.length := by omega
  have e1 : m = m.take k ++ (m[k] :: m.drop (k + 1)) := by rw [← List.drop_eq_getElem_cons hk, List.take_append_drop]
  have hb : d[k] = b := by rw [List.getElem?_eq_getElem hk'] at h; exact Option.some.inj h
  have e2 : d = d.take k ++ (b :: d.drop (k + 1)) := by rw [← hb, ← List.drop_eq_getElem_cons hk', List.take_append_drop]
  have hl : (m.take k).length = (d.take k).length := by rw [List.length_take, List.length_take]; omega
  conv => lhs; rw [e1, e2]
  rw [sel_app hl, sel_cons]
  cases b <;> simp
theorem sel_parted {m : List Pr} (hr : Rising m) {d : List Bool} (hd : d.length = m.length) {k : Nat} (hk : k < m.length) (h : d[k]? = some false) :
    Parted (sel m d) m[k].1 (sel (m.take k) (d.take k)) [] (sel (m.drop (k + 1)) (d.drop (k + 1))) := by
  have hr' : Rising (m.take k ++ (m[k] :: m.drop (k + 1))) := by rw [← List.drop_eq_getElem_cons hk, List.take_append_drop]; exact hr
  obtain ⟨h1, h2, h3⟩ := List.pairwise_append.1 hr'
  refine ⟨by rw [sel_at hd hk h]; rfl, fun p hp => ?_, (fun p hp => by cases hp), by simp, fun p hp => ?_⟩
  · exact h3 p ((sel_sub _ _).subset hp) m[k] List.mem_cons_self
  · exact (List.pairwise_cons.1 h2).1 p ((sel_sub _ _).subset hp)
theorem sel_put {m : List Pr} (hr : Rising m) {d : List Bool} (hd : d.length = m.length) {k : Nat} (hk : k < m.length) (h : d[k]? = some false) :
    putL (sel m d) m[k] = sel m (d.set k true) ∧ ¬ 0 ≤ findL (sel m d) m[k].1 ∧ (sel m (d.set k true)).length = (sel m d).length + 1 := by
  have hp := sel_parted hr hd hk h
  have hk' : k < d.length := by omega
  have hs : (d.set k true)[k]? = some true := by rw [List.getElem?_set_self hk']
  have e1 := sel_at (by rw [List.length_set]; exact hd) hk hs
  have t1 : (d.set k true).take k = d.take k := by
    refine List.ext_getElem? fun i => ?_
    simp only [List.getElem?_take]
    split
    · rw [List.getElem?_set_ne (by omega)]
    · rfl
  have t2 : (d.set k true).drop (k + 1) = d.drop (k + 1) := by
    refine List.ext_getElem? fun i => ?_
    simp only [List.getElem?_drop]
    rw [List.getElem?_set_ne (by omega)]
  rw [t1, t2] at e1
  have e2 : putL (sel m d) m[k] = sel (m.take k) (d.take k) ++ m[k] :: sel (m.drop (k + 1)) (d.drop (k + 1)) := hp.put (v := m[k].2)
  refine ⟨?_, ?_, ?_⟩
  · rw [e2, e1]; rfl
  · rw [hp.find]; simp
  · rw [e1, sel_at hd hk h]; simp; omega
theorem sel_len (m : List Pr) (d : List Bool) : (sel m d).length ≤ m.length := (sel_sub m d).length_le
end Go.Proofs.YtjpmlneihbckpaaGreatDoor
/- A row of marks beside a store. -/
set_option linter.unusedVariables false
set_option linter.unusedSimpArgs false
namespace Go.Proofs.YtjpmlneihbckpaaGreatDoor
open Go.RowKit Go.Shelf
theorem Tryz.info_bool : (Tryz.prog.info? 4).map (fun i => (i.zero, i.size, i.bytes)) = some (some (.bool false), 1, 1) := by kernel_rfl
theorem mk_bool (n : Nat) (hn : n ≤ 1000) (W : World) : (Instr.makeSlice 61 (.int .i64 (n : Int)) (.int .i64 (n : Int))).run Tryz.prog W = .ok (.slice (some ⟨W.heap.size, 0, none⟩) n n) (W.alloc (.cells (Array.replicate n (Value.bool false)) 4)) := by
  obtain ⟨i0, hi, hz0, hz1, hz2⟩ := info_parts Tryz.info_bool
  have hr := run_make (P := Tryz.prog) (w := W) 61 4 i0 (.bool false) (by kernel_rfl) hi hz0 .i64 .i64 (n : Int) (n : Int) (by omega) (by omega) (by rw [hz2]; omega) (by omega)
  simp only [Int.toNat_natCast] at hr
  rw [hr, hz1, Nat.mul_one]
  have e : madeCells (Value.cells (.bool false)) n = Array.replicate n (Value.bool false) := by
    apply Array.toList_inj.1
    rw [show Value.cells (.bool false) = [Value.bool false].toArray from rfl, toList_madeCells_one]
    simp
  rw [e]
theorem box_bools (W : World) (n : Nat) : Box (W.alloc (.cells (Array.replicate n (Value.bool false)) 4)) W.heap.size 4 ((List.replicate n false).map Value.bool) := by
  have h := Box.new W 4 ((List.replicate n false).map Value.bool)
  have e : ((List.replicate n false).map Value.bool).toArray = Array.replicate n (Value.bool false) := by
    apply Array.toList_inj.1
    simp
  rw [e] at h
  exact h
section
variable {w w' W : World} {s : Nat} {F F' : Nat → Prop} {R : Nat → Option (List Nat)} {H : List Nat} {P q most last G : Nat} {rd : Bool} {t : BT} {old : Ln} {l : List Pr}
theorem PaIn.put (h : PaIn w s F R H P q most last G rd t old l) {b j : Nat} {v : Value} (hb : ¬ F b) (hs : s ≠ b) (hp : ∀ p, w.cell? ⟨b, 0, none⟩ ≠ some (.pointer p)) (ht : 1 ≠ b) : PaIn (w.setCell ⟨b, j, none⟩ v) s F R H P q most last G rd t old l :=
  { h with st := h.st.kb (kb_one w b j v) (fun k e hF => hb (e ▸ hF)) hs (fun k e p => by rw [e]; exact hp p) ht }
theorem Turn.put (h : Turn w F w' F') {b j : Nat} {v : Value} (hb : w.heap.size ≤ b) : Turn w F (w'.setCell ⟨b, j, none⟩ v) F' :=
  ⟨by rw [← h.os]; rfl, by rw [← h.tape]; rfl, by rw [← h.output]; rfl, by simpa using h.size, fun k hk hn => (Below.heap_setCell w' ⟨b, j, none⟩ v k (by simp; omega)).trans (h.keep k hk hn), h.grow⟩
theorem ints_off {Z : Option Addr} {zs : List Int} (h : CellsF w (fun b => w.heap.size ≤ b) Z (intsV zs)) {i : Nat} (hi : i < zs.length) : ∃ b o, Z = some ⟨b, o, none⟩ ∧ ∀ W, Below w.heap.size w W → W.cell? ⟨b, o + i, none⟩ = some (.int .i64 zs[i]) := by
  have hk : (intsV zs)[i]? = some (.int .i64 zs[i]) := by unfold intsV; rw [List.getElem?_map, List.getElem?_eq_getElem hi]; rfl
  obtain ⟨b, o, e, hc⟩ := h.at' hk
  exact ⟨b, o, e, fun W hb => (hb.cell (p := ⟨b, o + i, none⟩) (cell_lt hc)).trans hc⟩
end
end Go.Proofs.YtjpmlneihbckpaaGreatDoor
/- loftlaw14.PartsOrder: the walk. -/
set_option linter.unusedVariables false
set_option linter.unusedSimpArgs false
namespace Go.Proofs.YtjpmlneihbckpaaGreatDoor
open Go.RowKit Go.Shelf
set_option maxHeartbeats 4000000 in
set_option maxRecDepth 100000 in
theorem order14_0 {w : World} (hT : Tab w) (l : List Pr) (A : Option Addr) (c : Nat) (zs : List Int) (Z : Option Addr) (cz : Nat) (h : ILaw w A l) (hg : 60 < l.length ∨ longL l = true) :
    Calls Tryz.prog 9 #[.slice A l.length c, .slice Z zs.length cz] w (TrueB w) := by
  have hTH := Lib.hid hT
  have z1 := h.2.2
  have hLH := Lib.hid (refLong_at (c := c) h.1.prs h.2.2 h.2.1)
  clear hT h
  unfold TrueB
  have hAw := Lib.hid (awake14_at hTH.out)
  by_cases q : (60 : Int) < (l.length : Int)
  · have d : decide ((60 : Int) < (l.length : Int)) = true := decide_eq_true q
    clear hg
    go_enter Tryz.func9, Tryz.ntmps9
    go_wp2_with fail
    refine hAw.out.mono ?_
    rintro e w9 ⟨rfl, hb9⟩
    have hb9H := Lib.hid hb9
    clear hb9
    go_wp2
    go_ret
    exact ⟨rfl, hb9H.out⟩
  · have d : decide ((60 : Int) < (l.length : Int)) = false := decide_eq_false q
    have hl : longL l = true := by rcases hg with h | h <;> first | exact h | omega
    rw [hl] at hLH
    clear hg
    go_enter Tryz.func9, Tryz.ntmps9
    go_wp2_with fail
    refine hLH.out.mono ?_
    rintro e w2 ⟨rfl, rfl⟩
    go_wp2_with fail
    refine hAw.out.mono ?_
    rintro e w9 ⟨rfl, hb9⟩
    have hb9H := Lib.hid hb9
    clear hb9
    go_wp2
    go_ret
    exact ⟨rfl, hb9H.out⟩
set_option maxHeartbeats 16000000 in
set_option maxRecDepth 100000 in
theorem order14_main {w : World} (hT : Tab w) (l : List Pr) (A : Option Addr) (c : Nat) (zs : List Int) (Z : Option Addr) (cz : Nat) (h : ILaw w A l) (hz : IInts w Z zs) (hzl : zs.length ≤ 17592186043904) (g1 : l.length ≤ 60) (g3 : longL l = false) :
    Calls Tryz.prog 9 #[.slice A l.length c, .slice Z zs.length cz] w (TrueB w) := by
  have hTH := Lib.hid hT
  have hLH := Lib.hid (refLong_at (c := c) h.1.prs h.2.2 h.2.1)
  rw [g3] at hLH
  have d1 : decide ((60 : Int) < (l.length : Int)) = false := decide_eq_false (by omega)
  have hso := Lib.hid (refSorted_at (c := c) h.1.prs (Nat.le_refl _) (by omega) h.2.1)
  have hsl := sortedL_len l
  have hrs := Lib.hid (sortedL_rising l)
  have hszl := sized_of g3
  have hszm : Hid (∀ p ∈ sortedL l, p.1.size ≤ 1000 ∧ p.2.size ≤ 1000) := Lib.hid (fun p hp => hszl p (sortedL_mem hp))
  have hZ := Lib.hid hz.1
  have hZb := Lib.hid hz.2.2
  clear hT h g3 hszl hz
  unfold TrueB
  go_enter Tryz.func9, Tryz.ntmps9
  go_wp2_with fail
  refine hLH.out.mono ?_
  rintro e w1 ⟨rfl, rfl⟩
  clear hLH
  go_wp2_with fail
  refine hso.out.mono ?_
  rintro e w2 ⟨v, rfl, hrow, hb2⟩
  obtain ⟨A2, c2, rfl, hA2, hc2, hP2⟩ := own_pairs hrow rfl
  have hP2H := Lib.hid hP2
  have hb2H := Lib.hid hb2
  clear hrow hP2 hb2 hso
  generalize sortedL l = m at *
  have hm60 : m.length ≤ 60 := by omega
  go_wp2_with fail
  go_loopw [6] (fun kv wr => ∃ z : Int, (z = 1 ∨ z = 2 ∨ z = 3) ∧ kv = .int .i64 z ∧ Hid (Below w2.heap.size w2 wr)) (fun kv _ => 4 - (intOf kv).toNat)
  case atStart => exact ⟨1, .inl rfl, rfl, Lib.hid (Below.refl _ _)⟩
  case round =>
    obtain ⟨z, hz3, rfl, hbr⟩ := hrel
    obtain ⟨wo, rfl⟩ : ∃ wo, wo = wr := ⟨wr, rfl⟩
    by_cases hz2 : z ≤ 2
    · obtain ⟨rd, rfl⟩ := kind_of (show ¬ z < 1 by omega) (show ¬ 2 < z by omega)
      have dk : decide (kindZ rd ≤ 2) = true := decide_eq_true hz2
      have kb : 1 ≤ kindZ rd := by omega
      have hbw := Lib.hid (hb2H.out.trans (hbr.out.mono hb2H.out.size))
      have hN := Lib.hid (snew_at (hTH.out.below hbw.out (tab_lt hTH.out)) 262144 1000 4294967295 (by omega) (by omega) (by omega) (by omega) (by omega))
      go_wp2_with fail
      refine hN.out.mono ?_
      rintro e w3 ⟨s, F, rfl, hS, hs1, hF1, hb3⟩
      have hSt := Lib.hid (PaIn.start hS rd)
      have hFw : Hid (∀ b, F b → wo.heap.size ≤ b) := Lib.hid hF1
      have hFl := Lib.hid (fun b (hf : F b) => hS.lt hf)
      have hsw : Hid (s < w3.heap.size) := Lib.hid hS.s_lt
      have hcf := Lib.hid (CellsF.of_prs (F := F) (hP2H.out.below (hbr.out.trans (hb3.mono hbr.out.size))) (Nat.le_trans hbr.out.size hb3.size) (fun b hf => Nat.le_trans hbr.out.size (hF1 b hf)))
      have htg : Hid (1 < w.heap.size) := Lib.hid (tab_lt hTH.out)
      have hbw3 := Lib.hid (hbw.out.trans (hb3.mono hbw.out.size))
      have hmk := mk_bool m.length (by omega)
      have hb3r := Lib.hid (hbr.out.trans (hb3.mono hbr.out.size))
      clear hS hs1 hF1 hb3 hN
      have hbx : Hid (Box (w3.alloc (.cells (Array.replicate m.length (Value.bool false)) 4)) w3.heap.size 4 ((List.replicate m.length false).map Value.bool)) := Lib.hid (box_bools _ _)
      have hba := Lib.hid ((Below.refl w3.heap.size w3).alloc (Nat.le_refl _) (.cells (Array.replicate m.length (Value.bool false)) 4))
      have hSt2 := Lib.hid (hSt.out.below hba.out)
      go_wp2_with fail
      go_loopw [9, 11] (fun rv iv wr' => ∃ (i cnt : Nat) (d : List Bool) (t : BT) (F' : Nat → Prop) (R' : Nat → Option (List Nat)) (H' : List Nat), i ≤ 300 ∧ iv = .int .i64 i ∧ rv = .int .u64 (t.root : Nat) ∧ cnt ≤ m.length ∧ Hid (d.length = m.length ∧ cnt = (sel m d).length) ∧ Hid (PaIn wr' s F' R' H' (9 * cnt) 262144 1000 4294967295 (3 * cnt) rd t .none (sel m d)) ∧ Hid (Turn w3 F wr' F') ∧ Hid (¬ F' w3.heap.size) ∧ Hid (Box wr' w3.heap.size 4 (d.map Value.bool)) ∧ Hid (∀ j, j < m.length → zs.length + j < i → d[j]? = some true)) (fun _ iv _ => 300 - (intOf iv).toNat)
      case atStart =>
        refine ⟨0, 0, List.replicate m.length false, .nil, F, (fun _ => none), [], by omega, rfl, rfl, by omega, Lib.hid ⟨by simp, by rw [sel_none]; rfl⟩, Lib.hid ?_, Lib.hid (Turn.below hba.out), Lib.hid (fun hf => by have := hFl.out _ hf; omega), hbx, Lib.hid (fun j hj h0 => by omega)⟩
        rw [sel_none]
        exact hSt2.out
      case round =>
        obtain ⟨i, cnt, d, t, F', R', H', hi300, rfl, rfl, hcm, hdl, hst, hT', hgF, hbx', hcov⟩ := hrel
        have hbw' := Lib.hid (hbw3.out.trans (hT'.out.to_below hbw3.out.size (fun b hf => Nat.le_trans hbw.out.size (hFw.out b hf))))
        have hbr' := Lib.hid (hb3r.out.trans (hT'.out.to_below hb3r.out.size (fun b hf => Nat.le_trans hbr.out.size (hFw.out b hf))))
        have bz : (zs.length : Int) + (m.length : Int) ≤ 17592186044000 := by omega
        by_cases cc1 : (i : Int) < (zs.length : Int) + (m.length : Int)
        · have dc1 : decide ((i : Int) < (zs.length : Int) + (m.length : Int)) = true := decide_eq_true cc1
          by_cases cc2 : (i : Int) < 300
          · have dc2 : decide ((i : Int) < 300) = true := decide_eq_true cc2
            have dc2n : decide (i < 300) = true := decide_eq_true (by omega)
            by_cases hm0 : m.length = 0
            · have cc3 : (i : Int) < (zs.length : Int) := by omega
              have dc3 : decide ((i : Int) < (zs.length : Int)) = true := decide_eq_true cc3
              have dc3n : decide (i < zs.length) = true := decide_eq_true (by omega)
              have dm0 : decide (0 < (m.length : Int)) = false := decide_eq_false (by omega)
              have dm0n : decide (0 < m.length) = false := decide_eq_false (by omega)
              have dn : decide ((i : Int) - (zs.length : Int) < 0) = true := decide_eq_true (by omega)
              go_wp2
              go_roundw
              case rel => exact ⟨i + 1, cnt, d, t, F', R', H', by omega, by go_num, rfl, hcm, hdl, hst, hT', hgF, hbx', Lib.hid (fun j hj h1 => by omega)⟩
              case measure => simp [intOf]; omega
            · have dm0 : decide (0 < (m.length : Int)) = true := decide_eq_true (by omega)
              have dm0n : decide (0 < m.length) = true := decide_eq_true (by omega)
              by_cases cc3 : (i : Int) < (zs.length : Int)
              · have dc3 : decide ((i : Int) < (zs.length : Int)) = true := decide_eq_true cc3
                have dc3n : decide (i < zs.length) = true := decide_eq_true (by omega)
                have hiz : i < zs.length := by omega
                obtain ⟨zb, zo, rfl, hzc⟩ := ints_off hZ.out hiz
                have q9 := hzc wr hbw'.out
                obtain ⟨a, ha⟩ : ∃ a, zs[i] = a := ⟨_, rfl⟩
                have hab := hZb.out _ (List.getElem_mem hiz)
                rw [ha] at q9 hab
                clear ha hzc
                obtain ⟨kk, hkk, hkke, hk1, hk2⟩ := idx_any a m.length (by omega)
                have dg1 : decide ((kk : Int) < 0) = false := decide_eq_false (by omega)
                have dg2 : decide ((m.length : Int) ≤ (kk : Int)) = false := decide_eq_false (by omega)
                have dg3 : decide (m.length ≤ kk) = false := decide_eq_false (by omega)
                have hkd : kk < d.length := by have := hdl.out.1; omega
                obtain ⟨b, hb⟩ : ∃ b, d[kk]? = some b := ⟨_, List.getElem?_eq_getElem hkd⟩
                have q5 : wr.cell? ⟨w3.heap.size, kk, none⟩ = some (.bool b) := hbx'.out.at' (by rw [List.getElem?_map, hb]; rfl)
                have hbH := Lib.hid hb
                clear hb hkd
                cases b with
                | true =>
                  go_wp2
                  go_roundw
                  case rel => exact ⟨i + 1, cnt, d, t, F', R', H', by omega, by go_num, rfl, hcm, hdl, hst, hT', hgF, hbx', Lib.hid (fun j hj h1 => by omega)⟩
                  case measure => simp [intOf]; omega
                | false =>
                  obtain ⟨bb, oo, hAs, q1, q2⟩ := (hcf.out.turn hT'.out).pairs hkk
                  obtain ⟨hput, hfnd, hcnt⟩ := sel_put hrs.out hdl.out.1 hkk hbH.out
                  have hzp := hszm.out _ (List.getElem_mem hkk)
                  obtain ⟨p, hp⟩ : ∃ p, m[kk] = p := ⟨_, rfl⟩
                  rw [hp] at hput hfnd hzp
                  simp only [hp] at q1 q2
                  have hlen := hst.out.len
                  rw [← hdl.out.2] at hlen hcnt
                  have hcl := sel_len m (d.set kk true)
                  rw [hcnt] at hcl
                  simp only [Ln.hs, List.length_nil, Nat.add_zero] at hlen
                  have hLf := leaf14_at hst.out.st p hzp.1 hzp.2 (by omega) (by omega) (by omega)
                  have hLfH := Lib.hid hLf
                  have hputH := Lib.hid hput
                  have hfndH := Lib.hid hfnd
                  have hcntH := Lib.hid hcnt
                  have hz9 := hzp.1
                  subst hAs
                  clear hLf hput hfnd hp hlen hcnt hzp
                  go_wp2_with fail
                  refine hLfH.out.mono ?_
                  rintro e w4 ⟨x, kx, vx, F2, R2, H2, rfl, gm, hS2, hH2, hT2, hx64⟩
                  have hIH := Lib.hid (paLeafIns_at hst.out gm hS2 hH2 (by have := hdl.out.2; omega))
                  have hT2H := Lib.hid hT2
                  clear gm hS2 hH2 hT2 hLfH
                  go_wp2_with fail
                  refine hIH.out.mono ?_
                  rintro e w5 ⟨t', old, R4, rfl, hst4, ho, hT4⟩
                  have h0 : old.root = 0 := by
                    by_cases h : old.root = 0
                    · exact h
                    · exact absurd (ho.1 h) (by have := hfndH.out; omega)
                  obtain rfl := Ln.none_of hst4.oat h0
                  have hst4' := hst4.more (P' := 9 * (cnt + 1)) (G' := 3 * (cnt + 1)) (by omega) (by omega)
                  rw [hputH.out] at hst4'
                  have hT5 := hT2H.out.trans hT4
                  have hbx5 := hbx'.out.turn hT5 hgF.out
                  have hgF5 := hT5.not hbx'.out.lt hgF.out
                  have q6 := hbx5.at' (i := kk) (v := .bool false) (by rw [List.getElem?_map, hbH.out]; rfl)
                  have q7 := hbx5.free kk
                  have q8 : ∀ p, w5.cell? ⟨w3.heap.size, 0, none⟩ ≠ some (.pointer p) := fun p e => by
                    have h0 : 0 < d.length := by have := hdl.out.1; omega
                    rw [hbx5.at' (i := 0) (v := .bool d[0]) (by rw [List.getElem?_map, List.getElem?_eq_getElem h0]; rfl)] at e
                    cases e
                  have hst5 := Lib.hid (hst4'.put (j := kk) (v := .bool true) hgF5 (by have := hsw.out; omega) q8 (by have := htg.out; have := hbw3.out.size; omega))
                  have hbx6 := hbx5.set kk (.bool true)
                  rw [← List.map_set] at hbx6
                  have hT6 := Lib.hid ((hT'.out.trans hT5).put (j := kk) (v := .bool true) (Nat.le_refl _) (b := w3.heap.size))
                  have hbx6H := Lib.hid hbx6
                  have hgF5H := Lib.hid hgF5
                  have r0 : (Ln.none).root = 0 := rfl
                  clear hst4 hst4' ho hT4 hIH h0 hT5 hbx5 hbx6 hgF5 q8 hT2H q5
                  go_wp2
                  go_roundw
                  case rel => exact ⟨i + 1, cnt + 1, d.set kk true, t', F2, R4, H2, by omega, by go_num, rfl, by omega, Lib.hid ⟨by rw [List.length_set]; exact hdl.out.1, hcntH.out.symm⟩, hst5, hT6, hgF5H, hbx6H, Lib.hid (fun j hj h1 => by omega)⟩
                  case measure => simp [intOf]; omega
              · have dc3 : decide ((i : Int) < (zs.length : Int)) = false := decide_eq_false cc3
                have dc3n : decide (i < zs.length) = false := decide_eq_false (by omega)
                obtain ⟨kk, hkke⟩ : ∃ kk : Nat, (i : Int) - (zs.length : Int) = (kk : Int) := ⟨i - zs.length, by omega⟩
                have hkk : kk < m.length := by omega
                have dg1 : decide ((kk : Int) < 0) = false := decide_eq_false (by omega)
                have dg2 : decide ((m.length : Int) ≤ (kk : Int)) = false := decide_eq_false (by omega)
                have dg3 : decide (m.length ≤ kk) = false := decide_eq_false (by omega)
                have hkd : kk < d.length := by have := hdl.out.1; omega
                obtain ⟨b, hb⟩ : ∃ b, d[kk]? = some b := ⟨_, List.getElem?_eq_getElem hkd⟩
                have q5 : wr.cell? ⟨w3.heap.size, kk, none⟩ = some (.bool b) := hbx'.out.at' (by rw [List.getElem?_map, hb]; rfl)
                have hbH := Lib.hid hb
                clear hb hkd
                cases b with
                | true =>
                  go_wp2
                  go_roundw
                  case rel => exact ⟨i + 1, cnt, d, t, F', R', H', by omega, by go_num, rfl, hcm, hdl, hst, hT', hgF, hbx', Lib.hid (fun j hj h1 => by
                by_cases e : zs.length + j < i
                · exact hcov.out j hj e
                · obtain rfl : j = kk := by omega
                  exact hbH.out)⟩
                  case measure => simp [intOf]; omega
                | false =>
                  obtain ⟨bb, oo, hAs, q1, q2⟩ := (hcf.out.turn hT'.out).pairs hkk
                  obtain ⟨hput, hfnd, hcnt⟩ := sel_put hrs.out hdl.out.1 hkk hbH.out
                  have hzp := hszm.out _ (List.getElem_mem hkk)
                  obtain ⟨p, hp⟩ : ∃ p, m[kk] = p := ⟨_, rfl⟩
                  rw [hp] at hput hfnd hzp
                  simp only [hp] at q1 q2
                  have hlen := hst.out.len
                  rw [← hdl.out.2] at hlen hcnt
                  have hcl := sel_len m (d.set kk true)
                  rw [hcnt] at hcl
                  simp only [Ln.hs, List.length_nil, Nat.add_zero] at hlen
                  have hLf := leaf14_at hst.out.st p hzp.1 hzp.2 (by omega) (by omega) (by omega)
                  have hLfH := Lib.hid hLf
                  have hputH := Lib.hid hput
                  have hfndH := Lib.hid hfnd
                  have hcntH := Lib.hid hcnt
                  have hz9 := hzp.1
                  subst hAs
                  clear hLf hput hfnd hp hlen hcnt hzp
                  go_wp2_with fail
                  refine hLfH.out.mono ?_
                  rintro e w4 ⟨x, kx, vx, F2, R2, H2, rfl, gm, hS2, hH2, hT2, hx64⟩
                  have hIH := Lib.hid (paLeafIns_at hst.out gm hS2 hH2 (by have := hdl.out.2; omega))
                  have hT2H := Lib.hid hT2
                  clear gm hS2 hH2 hT2 hLfH
                  go_wp2_with fail
                  refine hIH.out.mono ?_
                  rintro e w5 ⟨t', old, R4, rfl, hst4, ho, hT4⟩
                  have h0 : old.root = 0 := by
                    by_cases h : old.root = 0
                    · exact h
                    · exact absurd (ho.1 h) (by have := hfndH.out; omega)
                  obtain rfl := Ln.none_of hst4.oat h0
                  have hst4' := hst4.more (P' := 9 * (cnt + 1)) (G' := 3 * (cnt + 1)) (by omega) (by omega)
                  rw [hputH.out] at hst4'
                  have hT5 := hT2H.out.trans hT4
                  have hbx5 := hbx'.out.turn hT5 hgF.out
                  have hgF5 := hT5.not hbx'.out.lt hgF.out
                  have q6 := hbx5.at' (i := kk) (v := .bool false) (by rw [List.getElem?_map, hbH.out]; rfl)
                  have q7 := hbx5.free kk
                  have q8 : ∀ p, w5.cell? ⟨w3.heap.size, 0, none⟩ ≠ some (.pointer p) := fun p e => by
                    have h0 : 0 < d.length := by have := hdl.out.1; omega
                    rw [hbx5.at' (i := 0) (v := .bool d[0]) (by rw [List.getElem?_map, List.getElem?_eq_getElem h0]; rfl)] at e
                    cases e
                  have hst5 := Lib.hid (hst4'.put (j := kk) (v := .bool true) hgF5 (by have := hsw.out; omega) q8 (by have := htg.out; have := hbw3.out.size; omega))
                  have hbx6 := hbx5.set kk (.bool true)
                  rw [← List.map_set] at hbx6
                  have hT6 := Lib.hid ((hT'.out.trans hT5).put (j := kk) (v := .bool true) (Nat.le_refl _) (b := w3.heap.size))
                  have hbx6H := Lib.hid hbx6
                  have hgF5H := Lib.hid hgF5
                  have r0 : (Ln.none).root = 0 := rfl
                  clear hst4 hst4' ho hT4 hIH h0 hT5 hbx5 hbx6 hgF5 q8 hT2H q5
                  go_wp2
                  go_roundw
                  case rel => exact ⟨i + 1, cnt + 1, d.set kk true, t', F2, R4, H2, by omega, by go_num, rfl, by omega, Lib.hid ⟨by rw [List.length_set]; exact hdl.out.1, hcntH.out.symm⟩, hst5, hT6, hgF5H, hbx6H, Lib.hid (fun j hj h1 => by
                by_cases e : j = kk
                · subst e; exact List.getElem?_set_self (by have := hdl.out.1; omega)
                · rw [List.getElem?_set_ne (fun h => e h.symm)]; exact hcov.out j hj (by omega))⟩
                  case measure => simp [intOf]; omega
          · skip
            have dc2 : decide ((i : Int) < 300) = false := decide_eq_false cc2
            have dc2n : decide (i < 300) = false := decide_eq_false (by omega)
            by_cases g200 : (zs.length : Int) ≤ 200
            · have d200 : decide ((zs.length : Int) ≤ 200) = true := decide_eq_true g200
              have d201 : decide (zs.length ≤ 200) = true := decide_eq_true (by omega)
              have hsel := sel_all m d hdl.out.1 (fun j hj => hcov.out j hj (by omega))
              have hst' := hst.out
              rw [hsel] at hst'
              obtain ⟨tk, hTk, -⟩ := hst'.tree
              have hIs := Lib.hid (paIs_at (c := c2) hTk rd hst'.kd (hcf.out.turn hT'.out))
              clear hsel hst' hTk
              go_wp2_with fail
              refine hIs.out.mono ?_
              rintro e w9 ⟨rfl, hb9⟩
              have hb9H := Lib.hid (hbr'.out.trans (hb9.mono hbr'.out.size))
              clear hb9
              go_wp2
              go_roundw
              case rel => exact ⟨kindZ rd + 1, by omega, by go_num, hb9H⟩
              case measure => simp [intOf]; omega
            · have d200 : decide ((zs.length : Int) ≤ 200) = false := decide_eq_false g200
              have d201 : decide (zs.length ≤ 200) = false := decide_eq_false (by omega)
              go_wp2
              go_roundw
              case rel => exact ⟨kindZ rd + 1, by omega, by go_num, hbr'⟩
              case measure => simp [intOf]; omega
        · skip
          have dc1 : decide ((i : Int) < (zs.length : Int) + (m.length : Int)) = false := decide_eq_false cc1
          by_cases g200 : (zs.length : Int) ≤ 200
          · have d200 : decide ((zs.length : Int) ≤ 200) = true := decide_eq_true g200
            have d201 : decide (zs.length ≤ 200) = true := decide_eq_true (by omega)
            have hsel := sel_all m d hdl.out.1 (fun j hj => hcov.out j hj (by omega))
            have hst' := hst.out
            rw [hsel] at hst'
            obtain ⟨tk, hTk, -⟩ := hst'.tree
            have hIs := Lib.hid (paIs_at (c := c2) hTk rd hst'.kd (hcf.out.turn hT'.out))
            clear hsel hst' hTk
            go_wp2_with fail
            refine hIs.out.mono ?_
            rintro e w9 ⟨rfl, hb9⟩
            have hb9H := Lib.hid (hbr'.out.trans (hb9.mono hbr'.out.size))
            clear hb9
            go_wp2
            go_roundw
            case rel => exact ⟨kindZ rd + 1, by omega, by go_num, hb9H⟩
            case measure => simp [intOf]; omega
          · have d200 : decide ((zs.length : Int) ≤ 200) = false := decide_eq_false g200
            have d201 : decide (zs.length ≤ 200) = false := decide_eq_false (by omega)
            go_wp2
            go_roundw
            case rel => exact ⟨kindZ rd + 1, by omega, by go_num, hbr'⟩
            case measure => simp [intOf]; omega
    · obtain rfl : z = 3 := by omega
      have hbw := Lib.hid (hb2H.out.trans (hbr.out.mono hb2H.out.size))
      have hAw := Lib.hid (awake14_at (hTH.out.below hbw.out (tab_lt hTH.out)))
      go_wp2_with fail
      refine hAw.out.mono ?_
      rintro e w9 ⟨rfl, hb9⟩
      have hb9H := Lib.hid (hbw.out.trans (hb9.mono hbw.out.size))
      clear hb9 hAw
      go_wp2
      go_ret
      exact ⟨rfl, hb9H.out⟩
end Go.Proofs.YtjpmlneihbckpaaGreatDoor

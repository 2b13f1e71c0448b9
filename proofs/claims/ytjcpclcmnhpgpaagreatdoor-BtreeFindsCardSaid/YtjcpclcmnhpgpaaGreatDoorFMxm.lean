/-
  The seat's own texts, part xm: SlI.
-/
import Derived.Test.YtjcpclcmnhpgpaaGreatDoorFMxh
import Derived.Shelf.Spec.SlicesInsert
import Derived.Lib.AppendZerosOnto
import Derived.Laws.NewBlocks
import Derived.Laws.OwnMore

set_option linter.unusedVariables false
set_option linter.unusedSimpArgs false
namespace Go.Proofs.YtjcpclcmnhpgpaaGreatDoor
open Go.RowKit Go.Shelf Go.Lib
def putA (cur : Array Value) : Nat → List Value → Array Value
  | _, [] => cur
  | o, v :: vs => putA (cur.setIfInBounds o v) (o + 1) vs
theorem putA_size : ∀ (vs : List Value) (o : Nat) (cur : Array Value), (putA cur o vs).size = cur.size
  | [], _, _ => rfl
  | v :: vs, o, cur => by unfold putA; rw [putA_size vs, Array.size_setIfInBounds]
theorem putA_list : ∀ (vs : List Value) (o : Nat) (cur : Array Value), o + vs.length ≤ cur.size → (putA cur o vs).toList = cur.toList.take o ++ (vs ++ cur.toList.drop (o + vs.length))
  | [], o, cur, _ => by simp [putA]
  | v :: vs, o, cur, h => by
    simp only [List.length_cons] at h
    unfold putA
    rw [putA_list vs (o + 1) _ (by rw [Array.size_setIfInBounds]; omega), Array.toList_setIfInBounds]
    have hlt : o < cur.toList.length := by rw [Array.length_toList]; omega
    rw [List.take_set, List.drop_set_of_lt (by omega), List.take_succ_eq_append_getElem hlt, List.set_append_right _ _ (by rw [List.length_take]; omega)]
    rw [List.length_take, Nat.min_eq_left (by omega), Nat.sub_self]
    simp only [List.set_cons_zero, List.append_assoc, List.cons_append, List.nil_append, List.length_cons]
    rw [show o + (vs.length + 1) = o + 1 + vs.length by omega]
theorem setCell_heap {w : World} {g o : Nat} {cur : Array Value} {e : TypeId} {fr : Nat × Nat} (h : w.heap[g]? = some (.cells cur e fr)) (v : Value) : (w.setCell ⟨g, o, none⟩ v).heap[g]? = some (.cells (cur.setIfInBounds o v) e fr) := by
  simp [World.setCell, Array.getElem?_modify, h]
theorem setCells_heap : ∀ (vs : List Value) (o : Nat) (w : World) {g : Nat} {cur : Array Value} {e : TypeId} {fr : Nat × Nat}, w.heap[g]? = some (.cells cur e fr) → (w.setCells g o vs).heap[g]? = some (.cells (putA cur o vs) e fr)
  | [], _, _, _, _, _, _, h => h
  | v :: vs, o, w, g, cur, e, fr, h => setCells_heap vs (o + 1) _ (setCell_heap h v)
theorem setCells_far : ∀ (vs : List Value) (o : Nat) (w : World) (g k : Nat), k ≠ g → (w.setCells g o vs).heap[k]? = w.heap[k]?
  | [], _, _, _, _, _ => rfl
  | v :: vs, o, w, g, k, h => (setCells_far vs (o + 1) _ g k h).trans (Below.heap_setCell w ⟨g, o, none⟩ v k h)
theorem setCells_same : ∀ (vs : List Value) (o : Nat) (w : World) (g : Nat), (w.setCells g o vs).heap.size = w.heap.size ∧ (w.setCells g o vs).os = w.os ∧ (w.setCells g o vs).tape = w.tape ∧ (w.setCells g o vs).output = w.output
  | [], _, _, _ => ⟨rfl, rfl, rfl, rfl⟩
  | v :: vs, o, w, g => by
    obtain ⟨h1, h2, h3, h4⟩ := setCells_same vs (o + 1) (w.setCell ⟨g, o, none⟩ v) g
    exact ⟨by rw [World.setCells, h1]; simp [World.setCell], h2, h3, h4⟩
theorem cell_in {w : World} {g j : Nat} {cur : Array Value} {e : TypeId} {fr : Nat × Nat} (h : w.heap[g]? = some (.cells cur e fr)) : w.cell? ⟨g, j, none⟩ = cur[j]? := by simp [World.cell?, h]
theorem frozen_in {w : World} {g j : Nat} {cur : Array Value} {e : TypeId} (h : w.heap[g]? = some (.cells cur e (0, 0))) : w.frozen? ⟨g, j, none⟩ = false := by simp [World.frozen?, h]
theorem cell_one_in {w : World} {g : Nat} {u : Value} {e : TypeId} {fr : Nat × Nat} (h : w.heap[g]? = some (.cells #[u] e fr)) : ∀ j u', [u][j]? = some u' → w.cell? ((⟨g, 0, none⟩ : Addr).add j) = some u' := by
  intro j u' hj
  cases j with
  | zero => rw [Addr.add_lit, cell_in h]; simpa using hj
  | succ j => simp at hj
def InsR (B : Nat) (w : World) (r : Option Nat) (l : List Nat) (e : Ending) (w' : World) : Prop :=
  ∃ v', e = .returned v' ∧ w'.ownsRow B 31 1 v' l.length (hsV l) ∧ Rw w w' r v'.ownBlock
theorem hsV_app (a b : List Nat) : hsV (a ++ b) = hsV a ++ hsV b := by unfold hsV; simp
theorem hsV_one {l : List Nat} : ∀ v ∈ hsV l, v.oneCell' = true := by
  intro v hv
  unfold hsV at hv
  obtain ⟨x, _, rfl⟩ := List.mem_map.1 hv
  rfl
theorem Tryz.info_handle1 : (Tryz.prog.info? 31).map (·.size) = some 1 := by kernel_rfl
set_option maxHeartbeats 4000000 in
set_option maxRecDepth 100000 in
theorem slInsEnd_at {w : World} {B : Nat} {v : Value} {l : List Nat} (hB : B ≤ w.heap.size) (hrow : w.ownsRow B 31 1 v l.length (hsV l)) (hl : l.length ≤ 100000) {vb x : Nat} (hvb : w.heap[vb]? = some (.cells #[.int .u64 (x : Nat)] 31 (0, 0))) :
    Calls Tryz.prog 75 #[v, .int .i64 (l.length : Nat), .slice (some ⟨vb, 0, none⟩) 1 1] w (InsR B w v.ownBlock (l ++ [x])) := by
  obtain ⟨i0, hi, hz0, hz1', hz2⟩ := info_parts Tryz.info_handle
  have hrw : Hid (∀ v' w', w'.ownsRow B 31 1 v' (l.length + 1) (hsV l ++ [.int .u64 (x : Nat)]) → w.grownBy w' v.ownBlock → (v'.ownBlock = v.ownBlock ∨ v'.ownBlock = some w.heap.size) → InsR B w v.ownBlock (l ++ [x]) (.returned v') w') := Lib.hid (fun v' w' h1 h2 h3 => by
    refine ⟨v', rfl, by rw [List.length_append, hsV_app]; exact h1, h2, ?_⟩
    rcases h3 with h3 | h3
    · exact .inl h3
    · exact .inr fun k hk => by rw [h3] at hk; simp at hk; omega)
  have hvbH := Lib.hid hvb
  clear hvb
  rcases hrow.2 with ⟨rfl, h2⟩ | ⟨g, cap, cur, rfl, h2, h3, h4, h5, h6⟩
  · obtain rfl : l = [] := List.eq_nil_of_length_eq_zero h2
    have hrowH := Lib.hid hrow
    clear hrow h2
    go_enter Tryz.func75, Tryz.ntmps75
    go_wp2_with (at_builtin; refine wpList_append_own_at _ rfl _ _ 51 rfl B 31 i0 (.int .u64 0) 1 8 Tryz.under_handles hi hz0 hz1' hz2 rfl (by decide) _ _ _ rfl hrowH.out ⟨vb, 0, none⟩ 1 1 [.int .u64 (x : Nat)] rfl rfl (cell_one_in hvbH.out) (by simp [Value.oneCell']) (by unfold maxLen; omega) (by omega) hB ?_; intro v' w4 hown' hgrow _ hblk)
    all_goals
      go_ret
      exact hrw.out _ _ hown' hgrow hblk
  · have hc2 := h5
    unfold maxLen at hc2
    have hrowH := Lib.hid hrow
    clear hrow h3 h5 h6
    have hrw2 : Hid (∀ c v' w', w'.ownsRow B 31 1 v' (l.length + 1) (hsV l ++ [.int .u64 (x : Nat)]) → w.grownBy w' (some g) → (v'.ownBlock = some g ∨ v'.ownBlock = some w.heap.size) → InsR B w (Value.slice (some ⟨g, 0, none⟩) l.length c).ownBlock (l ++ [x]) (.returned v') w') := Lib.hid (fun _ => hrw.out)
    go_enter Tryz.func75, Tryz.ntmps75
    go_wp2_with (at_builtin; refine wpList_append_own_at _ rfl _ _ 51 rfl B 31 i0 (.int .u64 0) 1 8 Tryz.under_handles hi hz0 hz1' hz2 rfl (by decide) _ _ _ rfl hrowH.out ⟨vb, 0, none⟩ 1 1 [.int .u64 (x : Nat)] rfl rfl (cell_one_in hvbH.out) (by simp [Value.oneCell']) (by unfold maxLen; omega) (by omega) hB ?_; intro v' w4 hown' hgrow _ hblk)
    all_goals
      go_ret
      exact hrw2.out _ _ _ hown' hgrow hblk
theorem copy_hs {W : World} {g o : Nat} {cur : Array Value} {T : TypeId} {cs : List Value} (hW : W.heap[g]? = some (.cells cur T (0, 0))) (hroom : o + cs.length ≤ cur.size) (h1 : ∀ v ∈ cs, v.oneCell' = true) {a : Addr} {sLen dLen : Nat} (hn : cs.length = Nat.min sLen dLen) (hsrc : ∀ j v, cs[j]? = some v → W.cell? (a.add j) = some v) (ty : TypeId) (dc sc : Nat) :
    (Builtin.copy_ #[51, 51] ty #[.slice (some ⟨g, o, none⟩) dLen dc, .slice (some a) sLen sc]).run Tryz.prog W = .ok (goInt cs.length) (W.setCells g o cs) :=
  run_copy_cells W _ _ ty 31 g o dLen dc a sLen sc cs Tryz.under_handles Tryz.info_handle1 hn hsrc (fun j hj => by rw [cell_in hW, Array.getElem?_eq_getElem (by omega)]; rfl) (fun j hj => frozen_in hW) h1
theorem shape_in {w : World} {g : Nat} {cur : Array Value} {e : TypeId} {fr : Nat × Nat} (h : w.heap[g]? = some (.cells cur e fr)) : w.shape? g = some (e, cur.size) := by simp [World.shape?, h]
set_option maxHeartbeats 8000000 in
set_option maxRecDepth 100000 in
theorem slInsRoom_at {w : World} {B g cap : Nat} {cur : Array Value} {l : List Nat} {T : TypeId} (hT : T = 31) (hg : w.heap[g]? = some (.cells cur T (0, 0))) (hBg : B ≤ g) (hcs : cur.size = cap) (hcm : cap ≤ maxLen) (hcl : cur.toList.take l.length = hsV l) (k : Nat) (hk : k < l.length) (hroom : l.length + 1 ≤ cap) {vb x : Nat} (hvb : w.heap[vb]? = some (.cells #[.int .u64 (x : Nat)] 31 (0, 0))) (hne : vb ≠ g) :
    Calls Tryz.prog 75 #[.slice (some ⟨g, 0, none⟩) l.length cap, .int .i64 (k : Nat), .slice (some ⟨vb, 0, none⟩) 1 1] w (InsR B w (some g) (l.take k ++ x :: l.drop k)) := by
  have hmo : Tryz.prog.follows .mixedOrders = true := by kernel_rfl
  subst hT
  have hlen : (hsV l).length = l.length := hsV_len l
  have hdl : ((hsV l).drop k).length = l.length - k := by rw [List.length_drop, hlen]
  have hget : ∀ j v, (hsV l)[j]? = some v → cur[j]? = some v := fun j v hj => by
    rw [← hcl, List.getElem?_take] at hj
    split at hj
    · rw [← Array.getElem?_toList]; exact hj
    · cases hj
  obtain ⟨W1, hW1⟩ : ∃ W1, W1 = w.drew.setCells g (k + 1) ((hsV l).drop k) := ⟨_, rfl⟩
  have hgd : w.drew.heap[g]? = some (.cells cur 31 (0, 0)) := hg
  have hg1 : W1.heap[g]? = some (.cells (putA cur (k + 1) ((hsV l).drop k)) 31 (0, 0)) := by rw [hW1]; exact setCells_heap _ _ _ hgd
  have hv1 : W1.heap[vb]? = some (.cells #[.int .u64 (x : Nat)] 31 (0, 0)) := by rw [hW1, setCells_far _ _ _ _ _ hne]; exact hvb
  obtain ⟨W2, hW2⟩ : ∃ W2, W2 = W1.setCells g k [.int .u64 (x : Nat)] := ⟨_, rfl⟩
  have hg2 : W2.heap[g]? = some (.cells (putA (putA cur (k + 1) ((hsV l).drop k)) k [.int .u64 (x : Nat)]) 31 (0, 0)) := by rw [hW2]; exact setCells_heap _ _ _ hg1
  have hcp1 := fun ty dc sc => copy_hs (W := w.drew) (g := g) (o := k + 1) (cs := (hsV l).drop k) (a := ⟨g, k, none⟩) (sLen := l.length + 1 - k) (dLen := l.length - k) hgd (by rw [hdl]; omega) (fun v hv => hsV_one v (List.mem_of_mem_drop hv)) (by rw [hdl]; simp only [Nat.min_def]; split <;> omega) (fun j v hj => by rw [Addr.add_lit, cell_in hgd]; exact hget _ v (by rwa [List.getElem?_drop] at hj)) ty dc sc
  rw [← hW1] at hcp1
  have hcp2 := fun ty dc => copy_hs (W := W1) (g := g) (o := k) (cs := [.int .u64 (x : Nat)]) (a := ⟨vb, 0, none⟩) (sLen := 1) (dLen := l.length + 1 - k) hg1 (by rw [putA_size]; simp; omega) (by simp [Value.oneCell']) (by simp only [List.length_singleton, Nat.min_def]; split <;> omega) (cell_one_in hv1) ty dc 1
  rw [← hW2] at hcp2
  have hfin : Hid (InsR B w (some g) (l.take k ++ x :: l.drop k) (.returned (.slice (some ⟨g, 0, none⟩) (l.length + 1) cap)) W2) := Lib.hid (by
    have hl9 : (l.take k ++ x :: l.drop k).length = l.length + 1 := by simp; omega
    obtain ⟨s1, s2, s3, s4⟩ := setCells_same ((hsV l).drop k) (k + 1) w.drew g
    obtain ⟨r1, r2, r3, r4⟩ := setCells_same [.int .u64 (x : Nat)] k W1 g
    rw [← hW1] at s1 s2 s3 s4
    rw [← hW2] at r1 r2 r3 r4
    refine ⟨_, rfl, ⟨by rw [hsV_len, Nat.mul_one], .inr ⟨g, cap, _, by rw [hl9], hBg, hg2, by rw [hl9]; exact hroom, hcm, by rw [putA_size, putA_size, Nat.mul_one]; exact hcs, ?_⟩⟩, ⟨⟨by rw [r2, s2]; rfl, by rw [r3, s3]; rfl, by rw [r4, s4]; rfl, by rw [r1, s1]; exact Nat.le_refl _, fun j hj hn => ?_⟩, .inl rfl⟩⟩
    · rw [hl9, Nat.mul_one, putA_list _ _ _ (by rw [putA_size]; simp; omega), putA_list _ _ _ (by rw [hdl]; omega), hdl, hsV_app]
      have e2 : (cur.toList.take (k + 1)).length = k + 1 := by rw [List.length_take, Array.length_toList]; omega
      have e1 : ∀ Z : List Value, (cur.toList.take (k + 1) ++ Z).take k = (hsV l).take k := fun Z => by
        rw [List.take_append_of_le_length (by omega), ← hcl, List.take_take, List.take_take]; congr 1; omega
      have e3 : hsV (x :: l.drop k) = (Value.int .u64 (x : Nat)) :: (hsV l).drop k := by unfold hsV; simp
      have e4 : hsV (l.take k) = (hsV l).take k := by unfold hsV; simp
      have e8 : ∀ Z : List Value, (cur.toList.take (k + 1) ++ Z).drop (k + 1) = Z := fun Z => List.drop_left' e2
      rw [e1, e3, e4, List.length_singleton, e8]
      generalize cur.toList.drop (k + 1 + (l.length - k)) = Tl
      have e5 : ((hsV l).take k ++ ([Value.int .u64 (x : Nat)] ++ (hsV l).drop k)).length = l.length + 1 := by simp [hlen]; omega
      have e6 : (hsV l).take k ++ ([Value.int .u64 (x : Nat)] ++ ((hsV l).drop k ++ Tl)) = ((hsV l).take k ++ ([Value.int .u64 (x : Nat)] ++ (hsV l).drop k)) ++ Tl := by simp
      rw [e6, List.take_left' e5]
      rfl
    · have hjg : j ≠ g := fun e => hn (by rw [e])
      rw [hW2, setCells_far _ _ _ _ _ hjg, hW1, setCells_far _ _ _ _ _ hjg]
      rfl)
  have hov : ∀ lb cb, (callFunc 108 #[.slice (some ⟨vb, 0, none⟩) 1 1, .slice (some ⟨g, k + 1, none⟩) lb cb]).run Tryz.prog w = .ok (.value (.bool false)) w := fun lb cb => by
    rw [run_callFunc_extern Tryz.func108 (by kernel_rfl) (by kernel_rfl) (by kernel_rfl) (e := Extern.SlicesOverlaps.overlaps #[51, 51] #[4]) (by kernel_rfl),
      Lib.run_overlaps_apart w 51 4 31 Tryz.under_handles 1 (by intro w; exact Tryz.sizeOf31 w) ⟨vb, 0, none⟩ ⟨g, k + 1, none⟩ 1 1 lb cb hne _ _ _ _ (shape_in hvb) (shape_in hg) (by rw [hcs]; omega) (frozen_in hvb) (frozen_in hvb)]
    rfl
  have hw1 : IntKind.i64.wrap ((k : Int) + 1) = (k : Int) + 1 := by unfold maxLen at hcm; rw [IntKind.wrap_i64]; omega
  have hcm2 := hcm
  unfold maxLen at hcm2
  have hkn : ((k : Int) == (l.length : Int)) = false := by simp; omega
  have hb2 : ¬ (cap = k + 1) := by omega
  have hb4 : ¬ (cap = k) := by omega
  have hb1 : (0 : Int) ≤ (k : Int) + 1 := by omega
  have htn : ((k : Int) + 1).toNat = k + 1 := by omega
  have hb3 : (k : Int) ≤ (l.length : Int) + 1 := by omega
  have hb5 : (k : Int) + 1 ≤ (l.length : Int) + 1 := by omega
  have dc9 : decide ((l.length : Int) + 1 > (cap : Int)) = false := decide_eq_false (by omega)
  have hcp1H := Lib.hid hcp1
  have hcp2H := Lib.hid hcp2
  have hovH := hov
  clear hcp1 hcp2 hov hg1 hg2 hv1 hgd hW1 hW2 hget hdl hlen hcl hcs hg hvb
  go_enter Tryz.func75, Tryz.ntmps75
  go_wp2_with (simp only [hovH])
  refine wp_region_steps (fun _ => True) [.r 0, .r 1, .r 2, .r 3, .r 4, .r 5, .r 6, .r 7, .a 8] hmo (by kernel_rfl) rfl (by kernel_rfl) trivial (fun _ _ d _ _ h => by cases d <;> exact h) ?_
  refine wpSteps_r _ _ rfl rfl (by rintro W _; go_simp; exact rfl) ?_
  go_simp
  refine wpSteps_r _ _ rfl rfl (by rintro W _; go_simp; exact rfl) ?_
  go_simp
  refine wpSteps_r _ _ rfl rfl (by rintro W _; go_simp; exact rfl) ?_
  go_simp
  refine wpSteps_r _ _ rfl rfl (by rintro W _; go_simp; exact rfl) ?_
  go_simp
  refine wpSteps_r _ _ rfl rfl (by rintro W _; go_simp; exact rfl) ?_
  go_simp
  refine wpSteps_r _ _ rfl rfl (by rintro W _; go_simp; exact rfl) ?_
  go_simp
  refine wpSteps_r _ _ rfl rfl (by rintro W _; go_simp; exact rfl) ?_
  go_simp
  refine wpSteps_r _ _ rfl rfl (by rintro W _; go_simp; exact rfl) ?_
  go_simp
  refine wpSteps_a _ rfl (fun K1 hK1 => ?_)
  refine wpList_copy_runI _ rfl _ _ 51 51 rfl _ _ rfl rfl (hcp1H.out _ _ _) ?_
  go_wp2
  refine hK1 _ _ trivial ?_
  clear hK1 K1
  refine wpSteps_nil ?_
  have hcp2 := hcp2H.out
  go_wp2
  go_ret
  exact hfin.out
set_option maxHeartbeats 8000000 in
set_option maxRecDepth 100000 in
theorem slInsGrow_at {w : World} {B g cap : Nat} {cur : Array Value} {l : List Nat} {T : TypeId} (hB : B ≤ w.heap.size) (hT : T = 31) (hg : w.heap[g]? = some (.cells cur T (0, 0))) (hcs : cur.size = cap) (hcl : cur.toList.take l.length = hsV l) (hl : l.length ≤ 100000) (k : Nat) (hk : k < l.length) (hroom : cap < l.length + 1) (hcap : l.length ≤ cap) {vb x : Nat} (hvb : w.heap[vb]? = some (.cells #[.int .u64 (x : Nat)] 31 (0, 0))) :
    Calls Tryz.prog 75 #[.slice (some ⟨g, 0, none⟩) l.length cap, .int .i64 (k : Nat), .slice (some ⟨vb, 0, none⟩) 1 1] w (InsR B w (some g) (l.take k ++ x :: l.drop k)) := by
  have hmo : Tryz.prog.follows .mixedOrders = true := by kernel_rfl
  obtain ⟨i0, hi, hz0, hzs, hzb⟩ := info_parts Tryz.info_handle
  subst hT
  have hlen : (hsV l).length = l.length := hsV_len l
  have hdl : ((hsV l).drop k).length = l.length - k := by rw [List.length_drop, hlen]
  have htl : ((hsV l).take k).length = k := by rw [List.length_take, hlen]; omega
  have hget : ∀ j v, (hsV l)[j]? = some v → cur[j]? = some v := fun j v hj => by
    rw [← hcl, List.getElem?_take] at hj
    split at hj
    · rw [← Array.getElem?_toList]; exact hj
    · cases hj
  have hgw : g < w.heap.size := (Array.getElem?_eq_some_iff.1 hg).1
  have hvw : vb < w.heap.size := (Array.getElem?_eq_some_iff.1 hvb).1
  obtain ⟨bN, hbN⟩ : ∃ b, b = w.heap.size := ⟨_, rfl⟩
  obtain ⟨G, hG⟩ : ∃ G, G = grownCap w (l.length + 1) cap 31 := ⟨_, rfl⟩
  have hGn : l.length + 1 ≤ G := by rw [hG]; exact grownCap_ge w _ _ _
  have hGm : G ≤ maxLen := by rw [hG]; exact grownCap_le_maxLen w _ _ _ (by unfold maxLen; omega)
  have hold : (Builtin.firstCells i0.size k (.slice (some ⟨g, 0, none⟩) k cap)).run Tryz.prog w.drew = .ok ((hsV l).take k).toArray w.drew := by
    rw [hzs]
    exact run_firstCells_some w.drew 1 k ⟨g, 0, none⟩ k cap ((hsV l).take k) (by rw [htl]; omega) (fun j v hj => by
      rw [Addr.add_lit, Nat.zero_add, cell_in (w := w.drew) hg]
      rw [List.getElem?_take] at hj
      split at hj
      · exact hget j v hj
      · cases hj)
  obtain ⟨ROW, hROW⟩ : ∃ ROW : Array Value, ROW = ((hsV l).take k).toArray ++ Builtin.zeroCells (Value.int .u64 0).cells (l.length + 1 - k) ++ Builtin.zeroCells (Value.int .u64 0).cells (G - (l.length + 1)) := ⟨_, rfl⟩
  have hRs : ROW.size = G := by rw [hROW]; simp [Builtin.zeroCells, Value.cells, hlen]; omega
  have hRt : ROW.toList.take k = (hsV l).take k := by rw [hROW]; simp only [Array.toList_append, List.append_assoc]; exact List.take_left' htl
  obtain ⟨W1, hW1⟩ : ∃ W1, W1 = w.drew.alloc (.cells ROW 31) := ⟨_, rfl⟩
  have hrz : ∀ ty, (Builtin.append_ #[51, 3] ty #[.slice (some ⟨g, 0, none⟩) k cap, .int .i64 ((l.length : Int) + 1 - (k : Int))]).run Tryz.prog w = .ok (.slice (some ⟨bN, 0, none⟩) (l.length + 1) G) W1 := fun ty => by
    have hik : k + (l.length + 1 - k) = l.length + 1 := by omega
    have hkk : (l.length : Int) + 1 - (k : Int) = ((l.length + 1 - k : Nat) : Int) := by omega
    have h := Lib.run_append_grow_zeros w 51 3 ty 31 i0 (.int .u64 0) .i64 .i64 Tryz.under_handles Tryz.underlying3 hi hz0 (some ⟨g, 0, none⟩) k cap ((hsV l).take k) hold (l.length + 1 - k) (by omega) (by omega) (by omega) (by omega) (by rw [hzb]; omega) (by rw [hzb, hik]; exact growslice_fits hroom (by omega))
    rw [hik] at h
    rw [hkk, h, hbN, hG, hW1, hROW, hG]
  have h1N : W1.heap[bN]? = some (.cells ROW 31 (0, 0)) := by rw [hW1, hbN]; exact Array.getElem?_push_size
  have h1o : ∀ j, j < w.heap.size → W1.heap[j]? = w.heap[j]? := fun j hj => by rw [hW1]; exact Below.heap_alloc w.drew _ j hj
  obtain ⟨W2, hW2⟩ : ∃ W2, W2 = W1.setCells bN k [.int .u64 (x : Nat)] := ⟨_, rfl⟩
  have h2N : W2.drew.heap[bN]? = some (.cells (putA ROW k [.int .u64 (x : Nat)]) 31 (0, 0)) := by rw [hW2]; exact setCells_heap _ _ _ h1N
  have h2o : ∀ j, j < w.heap.size → W2.drew.heap[j]? = w.heap[j]? := fun j hj => by
    rw [← h1o j hj, hW2]; exact setCells_far _ _ _ _ _ (by omega)
  obtain ⟨W3, hW3⟩ : ∃ W3, W3 = W2.drew.setCells bN (k + 1) ((hsV l).drop k) := ⟨_, rfl⟩
  have h3N : W3.heap[bN]? = some (.cells (putA (putA ROW k [.int .u64 (x : Nat)]) (k + 1) ((hsV l).drop k)) 31 (0, 0)) := by rw [hW3]; exact setCells_heap _ _ _ h2N
  have hcpA := fun ty dc => copy_hs (W := W1) (g := bN) (o := k) (cs := [.int .u64 (x : Nat)]) (a := ⟨vb, 0, none⟩) (sLen := 1) (dLen := l.length + 1 - k) h1N (by rw [hRs]; simp; omega) (by simp [Value.oneCell']) (by simp only [List.length_singleton, Nat.min_def]; split <;> omega) (cell_one_in ((h1o vb hvw).trans hvb)) ty dc 1
  rw [← hW2] at hcpA
  have hcpB := fun ty dc sc => copy_hs (W := W2.drew) (g := bN) (o := k + 1) (cs := (hsV l).drop k) (a := ⟨g, k, none⟩) (sLen := l.length - k) (dLen := l.length - k) h2N (by rw [putA_size, hdl, hRs]; omega) (fun v hv => hsV_one v (List.mem_of_mem_drop hv)) (by rw [hdl]; simp) (fun j v hj => by rw [Addr.add_lit, cell_in ((h2o g hgw).trans hg)]; exact hget _ v (by rwa [List.getElem?_drop] at hj)) ty dc sc
  rw [← hW3] at hcpB
  have hfin : Hid (InsR B w (some g) (l.take k ++ x :: l.drop k) (.returned (.slice (some ⟨bN, 0, none⟩) (l.length + 1) G)) W3) := Lib.hid (by
    have hl9 : (l.take k ++ x :: l.drop k).length = l.length + 1 := by simp; omega
    obtain ⟨s1, s2, s3, s4⟩ := setCells_same ((hsV l).drop k) (k + 1) W2.drew bN
    obtain ⟨r1, r2, r3, r4⟩ := setCells_same [.int .u64 (x : Nat)] k W1 bN
    rw [← hW3] at s1 s2 s3 s4
    rw [← hW2] at r1 r2 r3 r4
    refine ⟨_, rfl, ⟨by rw [hsV_len, Nat.mul_one], .inr ⟨bN, G, _, by rw [hl9], by omega, h3N, by rw [hl9]; exact hGn, hGm, by rw [putA_size, putA_size, Nat.mul_one]; exact hRs, ?_⟩⟩, ⟨⟨?_, ?_, ?_, ?_, fun j hj hn => ?_⟩, .inr fun j hj => ?_⟩⟩
    · rw [hl9, Nat.mul_one, putA_list _ _ _ (by rw [putA_size, hdl, hRs]; omega), putA_list _ _ _ (by rw [hRs]; simp; omega), hsV_app, hRt]
      have e3 : hsV (x :: l.drop k) = (Value.int .u64 (x : Nat)) :: (hsV l).drop k := by unfold hsV; simp
      have e4 : hsV (l.take k) = (hsV l).take k := by unfold hsV; simp
      generalize ROW.toList.drop (k + [Value.int .u64 (x : Nat)].length) = Z
      have e1 : ((hsV l).take k ++ ([Value.int .u64 (x : Nat)] ++ Z)).take (k + 1) = (hsV l).take k ++ [Value.int .u64 (x : Nat)] := by
        rw [← List.append_assoc]; exact List.take_left' (by simp [htl])
      rw [e1, e3, e4]
      generalize ((hsV l).take k ++ ([Value.int .u64 (x : Nat)] ++ Z)).drop (k + 1 + ((hsV l).drop k).length) = Y
      have e6 : (hsV l).take k ++ [Value.int .u64 (x : Nat)] ++ ((hsV l).drop k ++ Y) = ((hsV l).take k ++ ([Value.int .u64 (x : Nat)] ++ (hsV l).drop k)) ++ Y := by simp
      rw [e6, List.take_left' (by simp [hlen]; omega)]
      rfl
    · rw [s2]; show W2.os = _; rw [r2, hW1]; rfl
    · rw [s3]; show W2.tape = _; rw [r3, hW1]; rfl
    · rw [s4]; show W2.output = _; rw [r4, hW1]; rfl
    · rw [s1]; show _ ≤ W2.heap.size; rw [r1, hW1]; simp [World.alloc]
    · rw [hW3, setCells_far _ _ _ _ _ (by omega)]; exact h2o j hj
    · have : bN = j := by simpa [Value.ownBlock] using hj
      omega)
  have hkn : ((k : Int) == (l.length : Int)) = false := by simp; omega
  have hG63 := hGm
  unfold maxLen at hG63
  have hw1 : IntKind.i64.wrap ((k : Int) + 1) = (k : Int) + 1 := by rw [IntKind.wrap_i64]; omega
  have hb1 : (0 : Int) ≤ (k : Int) + 1 := by omega
  have htn : ((k : Int) + 1).toNat = k + 1 := by omega
  have hb3 : (k : Int) ≤ (l.length : Int) := by omega
  have hGi : ¬ (G = k) := by omega
  have hGim : ¬ (G = k + 1) := by omega
  have hci : ¬ (cap = k) := by omega
  have dc9 : decide ((l.length : Int) + 1 > (cap : Int)) = true := decide_eq_true (by omega)
  have hcpBH := Lib.hid hcpB
  clear hcpB hold h1N h2N h3N h1o h2o hW1 hW2 hW3 hget hdl htl hlen hcl hcs hg hvb hbN hG hROW hRs hRt hi hz0 hzs hzb
  go_enter Tryz.func75, Tryz.ntmps75
  go_wp2_with (at_builtin; refine Lib.wpList_append_run _ rfl _ _ _ _ rfl _ _ rfl rfl _ _ (hrz _) ?_)
  refine wp_region_steps (fun _ => True) [.r 0, .r 1, .r 2, .r 3, .r 4, .r 5, .r 6, .r 7, .a 8] hmo (by kernel_rfl) rfl (by kernel_rfl) trivial (fun _ _ d _ _ h => by cases d <;> exact h) ?_
  refine wpSteps_r _ _ rfl rfl (by rintro W _; go_simp; exact rfl) ?_
  go_simp
  refine wpSteps_r _ _ rfl rfl (by rintro W _; go_simp; exact rfl) ?_
  go_simp
  refine wpSteps_r _ _ rfl rfl (by rintro W _; go_simp; exact rfl) ?_
  go_simp
  refine wpSteps_r _ _ rfl rfl (by rintro W _; go_simp; exact rfl) ?_
  go_simp
  refine wpSteps_r _ _ rfl rfl (by rintro W _; go_simp; exact rfl) ?_
  go_simp
  refine wpSteps_r _ _ rfl rfl (by rintro W _; go_simp; exact rfl) ?_
  go_simp
  refine wpSteps_r _ _ rfl rfl (by rintro W _; go_simp; exact rfl) ?_
  go_simp
  refine wpSteps_r _ _ rfl rfl (by rintro W _; go_simp; exact rfl) ?_
  go_simp
  refine wpSteps_a _ rfl (fun K1 hK1 => ?_)
  have hcpB := hcpBH.out
  go_wp2
  refine hK1 _ _ trivial ?_
  clear hK1 K1
  refine wpSteps_nil ?_
  go_wp2
  go_ret
  exact hfin.out
theorem slIns_at {w : World} {B : Nat} {v : Value} {l : List Nat} (hB : B ≤ w.heap.size) (hrow : w.ownsRow B 31 1 v l.length (hsV l)) (k : Nat) (hk : k ≤ l.length) (hl : l.length ≤ 100000) {vb x : Nat} (hvb : w.heap[vb]? = some (.cells #[.int .u64 (x : Nat)] 31 (0, 0))) (hne : v.ownBlock ≠ some vb) :
    Calls Tryz.prog 75 #[v, .int .i64 (k : Nat), .slice (some ⟨vb, 0, none⟩) 1 1] w (InsR B w v.ownBlock (l.take k ++ x :: l.drop k)) := by
  by_cases he : k = l.length
  · subst he
    rw [List.take_length, List.drop_length]
    exact slInsEnd_at hB hrow hl hvb
  · have hlt : k < l.length := by omega
    rcases hrow.2 with ⟨h1, h2⟩ | ⟨g, cap, cur, rfl, h2, h3, h4, h5, h6, h7⟩
    · omega
    · rw [Nat.mul_one] at h6 h7
      have hvg : vb ≠ g := fun e => hne (by rw [e]; rfl)
      by_cases hr : l.length + 1 ≤ cap
      · exact slInsRoom_at rfl h3 h2 h6 h5 h7 k hlt hr hvb hvg
      · exact slInsGrow_at hB rfl h3 h6 h7 hl k hlt (by omega) h4 hvb
end Go.Proofs.YtjcpclcmnhpgpaaGreatDoor

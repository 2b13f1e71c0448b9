/-
  The seat's own texts, part v: BnW2, BnW3.
-/
import Derived.Test.YtjcpclcmnhpgpaaGreatDoorFMu
import Derived.Laws.MakeOwn

set_option linter.unusedVariables false
set_option linter.unusedSimpArgs false
namespace Go.Proofs.YtjcpclcmnhpgpaaGreatDoor
open Go.RowKit Go.Shelf
namespace BN
def stg (t : Nat) (n : BN) (m : Nat) : List Nat := (List.range (6 * t)).map fun i => if i < m then n.wdAt t i else 0
theorem stg_get? (t : Nat) (n : BN) (m i : Nat) (h : i < 6 * t) : (stg t n m)[i]? = some (if i < m then n.wdAt t i else 0) := by simp [stg, h]
theorem stg_zero (t : Nat) (n : BN) : stg t n 0 = List.replicate (6 * t) 0 := by
  refine List.ext_getElem (by simp [stg]) fun i h1 h2 => ?_
  simp [stg]
theorem stg_succ {t : Nat} {n : BN} {m : Nat} (h : m < 6 * t) : (stg t n m).set m (n.wdAt t m) = stg t n (m + 1) := by
  refine List.ext_getElem (by simp [stg]) fun i h1 h2 => ?_
  rw [List.getElem_set]
  simp only [stg, List.getElem_map, List.getElem_range]
  by_cases e : m = i
  · subst e; simp
  · rw [if_neg e]
    by_cases h3 : i < m
    · rw [if_pos h3, if_pos (by omega)]
    · rw [if_neg h3, if_neg (by omega)]
theorem stg_mid {t : Nat} {n : BN} (h : n.Fits t) : stg t n (2 + 2 * n.keys.length) = stg t n (4 * t) := by
  refine List.ext_getElem (by simp [stg]) fun i h1 h2 => ?_
  simp only [stg, List.getElem_map, List.getElem_range]
  obtain ⟨g1, g2, g3⟩ := h
  by_cases h3 : i < 2 + 2 * n.keys.length
  · rw [if_pos h3, if_pos (by simp [stg] at h1; omega)]
  · rw [if_neg h3]
    by_cases h4 : i < 4 * t
    · rw [if_pos h4]
      unfold wdAt
      rw [if_neg (by omega), if_neg (by omega), if_pos h4]
      have hk : n.keys.length ≤ (i - 2) / 2 := by omega
      split
      · rw [List.getD_eq_getElem?_getD, List.getElem?_eq_none hk]; rfl
      · rw [List.getD_eq_getElem?_getD, List.getElem?_eq_none (by omega)]; rfl
    · rw [if_neg h4]
theorem stg_end {t : Nat} {n : BN} (ht : 2 ≤ t) : stg t n (4 * t + n.kids.length) = n.wd t := by
  refine List.ext_getElem (by simp [stg, wd]) fun i h1 h2 => ?_
  simp only [stg, wd, List.getElem_map, List.getElem_range]
  by_cases h3 : i < 4 * t + n.kids.length
  · rw [if_pos h3]
  · rw [if_neg h3]
    unfold wdAt
    rw [if_neg (by omega), if_neg (by omega), if_neg (by omega), List.getD_eq_getElem?_getD, List.getElem?_eq_none (by omega)]
    rfl
end BN
theorem mk_words (n : Nat) (hn : n ≤ 1000) (W : World) : (Instr.makeSlice 134 (.int .i64 (n : Int)) (.int .i64 (n : Int))).run Tryz.prog W = .ok (.slice (some ⟨W.heap.size, 0, none⟩) n n) (W.alloc (.cells (Array.replicate n (Value.int .u64 0)) 30)) := by
  obtain ⟨i0, hi, hz0, hz1, hz2⟩ := info_parts Tryz.info_word
  have hr := run_make (P := Tryz.prog) (w := W) 134 30 i0 (.int .u64 0) (by kernel_rfl) hi hz0 .i64 .i64 (n : Int) (n : Int) (by omega) (by omega) (by rw [hz2]; omega) (by omega)
  simp only [Int.toNat_natCast] at hr
  rw [hr, hz1, Nat.mul_one]
  have e : madeCells (Value.cells (.int .u64 0)) n = Array.replicate n (Value.int .u64 0) := by
    apply Array.toList_inj.1
    rw [show Value.cells (.int .u64 0) = [Value.int .u64 0].toArray from rfl, toList_madeCells_one]
    simp
  rw [e]
theorem box_words (W : World) (n : Nat) : Box (W.alloc (.cells (Array.replicate n (Value.int .u64 0)) 30)) W.heap.size 30 (wordsV (List.replicate n 0)) := by
  have h := Box.new W 30 (wordsV (List.replicate n 0))
  have e : (wordsV (List.replicate n 0)).toArray = Array.replicate n (Value.int .u64 0) := by
    apply Array.toList_inj.1
    simp [wordsV]
  rw [e] at h
  exact h
theorem wordsV_set (l : List Nat) (i x : Nat) : (wordsV l).set i (.int .u64 (x : Nat)) = wordsV (l.set i x) := by
  unfold wordsV
  rw [List.map_set]
def WordsIt (w : World) (ws : List Nat) (e : Ending) (w' : World) : Prop :=
  ∃ b bx, e = .returned (.func (.func 121) #[] #[.pointer (some ⟨bx, 0, none⟩)]) ∧ w.heap.size ≤ b ∧ w.heap.size ≤ bx ∧ w'.cell? ⟨bx, 0, none⟩ = some (.slice (some ⟨b, 0, none⟩) ws.length ws.length) ∧ (∀ j u, (wordsV ws)[j]? = some u → w'.cell? ⟨b, j, none⟩ = some u) ∧ b < w'.heap.size ∧ Below w.heap.size w w'
set_option maxRecDepth 100000 in
theorem slAll_at (A : Option Addr) (n c : Nat) (w : World) : Calls Tryz.prog 91 #[.slice A n c] w fun e w' => e = .returned (.func (.func 121) #[] #[.pointer (some ⟨w.heap.size, 0, none⟩)]) ∧ w' = w.alloc (.cells #[.slice A n c] 134) := by
  go_enter Tryz.func91, Tryz.ntmps91
  go_wp2
  go_ret
  exact ⟨rfl, rfl⟩
theorem CellsF.num {w : World} {F : Nat → Prop} {A : Option Addr} {l : List Nat} (h : CellsF w F A (hsV l)) {k : Nat} (hk : k < l.length) : ∃ b o, A = some ⟨b, o, none⟩ ∧ b < w.heap.size ∧ ∀ W, Below w.heap.size w W → W.cell? ⟨b, o + k, none⟩ = some (.int .u64 (l[k] : Nat)) := by
  rcases h with h | ⟨b, o, h1, h2, h3, h4⟩
  · have h9 := congrArg List.length h
    rw [hsV_len] at h9
    have h8 : l.length = 0 := h9
    omega
  · exact ⟨b, o, h1, h2, fun W hb => (hb.cell (p := ⟨b, o + k, none⟩) h2).trans (h4 k _ (hsV_get hk))⟩
theorem Turn.own1 {w : World} {F : Nat → Prop} {b : Nat} (hF : F b) (j : Nat) (v : Value) : Turn w F (w.setCell ⟨b, j, none⟩ v) F :=
  ⟨rfl, rfl, rfl, by simp, fun k hk hn => Below.heap_setCell w ⟨b, j, none⟩ v k (fun e => hn (e ▸ hF)), fun _ h => .inl h⟩
set_option maxHeartbeats 4000000 in
set_option maxRecDepth 100000 in
theorem bwords_at {w : World} {F : Nat → Prop} {v : Value} {n : BN} (h : BNV w F v n) (t : Nat) (ht : BN.Deg t) (hf : n.Fits t) :
    Calls Tryz.prog 62 #[.int .i64 (t : Nat), v] w (WordsIt w (n.wd t)) := by
  obtain ⟨⟨Ak, ck, Av, cv, Ai, ci, rfl, k1, k2, k3⟩, l1, l2, l3⟩ := h
  have hmo : Tryz.prog.follows .mixedOrders = true := by kernel_rfl
  have hck := Lib.hid (fun k (hk : k < n.keys.length) => k1.num hk)
  have hcv := Lib.hid (fun k (hk : k < n.vals.length) => k2.num hk)
  have hci := Lib.hid (fun k (hk : k < n.kids.length) => k3.num hk)
  have hfH := Lib.hid hf
  have t2 := ht.2
  have t1 := ht.1
  have hnk := hf.1
  have hnvH := Lib.hid hf.2.1
  have hni : n.kids.length ≤ 2 * t := by
    rcases hf.2.2 with h | h
    · rw [h]; simp
    · have := h.1; omega
  have hwk : IntKind.u64.wrap ((n.keys.length : Nat) : Int) = ((n.keys.length : Nat) : Int) := wrap_nat (by omega)
  have hbx0 := Box.new w 66 [.slice Ak n.keys.length ck, .slice Av n.vals.length cv, .slice Ai n.kids.length ci, .int .u64 (n.size : Nat)]
  have hb0 : Below w.heap.size w (w.alloc (Obj.cells #[.slice Ak n.keys.length ck, .slice Av n.vals.length cv, .slice Ai n.kids.length ci, .int .u64 (n.size : Nat)] 66)) := (Below.refl _ w).alloc (Nat.le_refl _) _
  have hmk := mk_words (6 * t) (by omega)
  push_cast at hmk
  obtain ⟨W1, hW1⟩ : ∃ W, W = w.alloc (Obj.cells #[.slice Ak n.keys.length ck, .slice Av n.vals.length cv, .slice Ai n.kids.length ci, .int .u64 (n.size : Nat)] 66) := ⟨_, rfl⟩
  rw [show (Obj.cells ([.slice Ak n.keys.length ck, .slice Av n.vals.length cv, .slice Ai n.kids.length ci, .int .u64 (n.size : Nat)] : List Value).toArray 66) = (Obj.cells #[.slice Ak n.keys.length ck, .slice Av n.vals.length cv, .slice Ai n.kids.length ci, .int .u64 (n.size : Nat)] 66) from rfl, ← hW1] at hbx0
  rw [← hW1] at hb0
  have hz1 : W1.heap.size = w.heap.size + 1 := by rw [hW1]; simp
  have hbxw := box_words W1 (6 * t)
  obtain ⟨W2, hW2⟩ : ∃ W, W = W1.alloc (.cells (Array.replicate (6 * t) (Value.int .u64 0)) 30) := ⟨_, rfl⟩
  rw [← hW2] at hbxw
  have hbx2 : Box W2 w.heap.size 66 [.slice Ak n.keys.length ck, .slice Av n.vals.length cv, .slice Ai n.kids.length ci, .int .u64 (n.size : Nat)] := by rw [hW2]; exact hbx0.alloc _
  have hb2 : Below w.heap.size w W2 := by rw [hW2]; exact hb0.alloc (by omega) _
  obtain ⟨bn, hbn⟩ : ∃ b, b = w.heap.size := ⟨_, rfl⟩
  obtain ⟨b, hb⟩ : ∃ b, b = W1.heap.size := ⟨_, rfl⟩
  rw [← hbn] at hbx2
  rw [← hb] at hbxw
  have hb' : Hid (b = w.heap.size + 1) := Lib.hid (by omega)
  have hlt : b < W2.heap.size := hbxw.lt
  have hbge : w.heap.size ≤ b := by omega
  have hbb : bn ≠ b := by omega
  have hz0 : BN.stg t n 0 = List.replicate (6 * t) 0 := BN.stg_zero t n
  rw [← hz0] at hbxw
  have hW1H := Lib.hid hW1
  have hW2H := Lib.hid hW2
  have hbnH := Lib.hid hbn
  have hbxwH := Lib.hid hbxw
  have hbx2H := Lib.hid hbx2
  have hb2H := Lib.hid hb2
  clear k1 k2 k3 hbx0 hb0 hz1 hW1 hW2 hbn hb hbxw hbx2 hb2 hz0 hf ht
  go_enter Tryz.func62, Tryz.ntmps62
  go_wp2
  rw [← hW1H.out, ← hW2H.out, ← hb'.out, ← hbnH.out]
  have c0 := fun X : Kp W2 (fun k => k = b) => Kp.cell (hbx2H.out.at' (i := 0) rfl) hbb X
  have c3 := fun X : Kp W2 (fun k => k = b) => Kp.cell (hbx2H.out.at' (i := 3) rfl) hbb X
  clear hW1H hW2H hbnH hb' hmk
  refine wp_region_row (fun w' => ∃ X : Kp W2 (fun k => k = b), w' = X.W) [0, 1, 2, 3, 4, 5, 6, 7, 8] [9, 10, 11] hmo (by kernel_rfl) rfl (by kernel_rfl) (Kp.start _ _) (fun _ _ d _ _ h => by cases d <;> exact h) ?_
  refine wpReads_step _ _ rfl rfl (by rintro _ ⟨X, rfl⟩; go_simp; exact rfl) ?_
  go_simp
  refine wpReads_step _ _ rfl rfl (by rintro _ ⟨X, rfl⟩; go_simp; exact rfl) ?_
  go_simp
  refine wpReads_step _ _ rfl rfl (by rintro _ ⟨X, rfl⟩; go_simp; exact rfl) ?_
  go_simp
  refine wpReads_step _ _ rfl rfl (by rintro _ ⟨X, rfl⟩; go_simp; exact rfl) ?_
  go_simp
  refine wpReads_step _ _ rfl rfl (by rintro _ ⟨X, rfl⟩; go_simp; exact rfl) ?_
  go_simp
  refine wpReads_step _ _ rfl rfl (by rintro _ ⟨X, rfl⟩; go_simp; exact rfl) ?_
  go_simp
  refine wpReads_step _ _ rfl rfl (by rintro _ ⟨X, rfl⟩; go_simp; exact rfl) ?_
  go_simp
  refine wpReads_step _ _ rfl rfl (by rintro _ ⟨X, rfl⟩; go_simp; exact rfl) ?_
  go_simp
  refine wpReads_step _ _ rfl rfl (by rintro _ ⟨X, rfl⟩; go_simp; first | exact rfl | rw [if_pos (by omega)]) ?_
  go_simp
  refine wpReads_nil ?_
  clear c0 c3
  have hbd : Below W2.heap.size W2 W2.drew := below_drawn W2
  change wpActs _ _ _ _ _ _ W2.drew
  have hbxw3 := hbxwH.out.below hbd
  have hbx23 := hbx2H.out.below hbd
  have hb23 := hb2H.out.trans (hbd.mono hb2H.out.size)
  have hT3 : Turn W2 (fun k => k = b) W2.drew (fun k => k = b) := Turn.below hbd
  have hlt3 : b < W2.drew.heap.size := hlt
  clear hbd
  generalize W2.drew = W3 at *
  have q0 : W3.cell? ⟨b, 0, none⟩ = some (.int .u64 0) := hbxw3.at' (i := 0) (by unfold wordsV; rw [List.getElem?_map, BN.stg_get? _ _ _ _ (by omega)]; rfl)
  have q1 : W3.cell? ⟨b, 1, none⟩ = some (.int .u64 0) := hbxw3.at' (i := 1) (by unfold wordsV; rw [List.getElem?_map, BN.stg_get? _ _ _ _ (by omega)]; rfl)
  have q2 : W3.frozen? ⟨b, 0, none⟩ = false := hbxw3.free 0
  have q3 : W3.frozen? ⟨b, 1, none⟩ = false := hbxw3.free 1
  have hbxw5 := Lib.hid ((hbxw3.set 0 (.int .u64 (n.keys.length : Nat))).set 1 (.int .u64 (n.size : Nat)))
  have hbx25 := Lib.hid ((hbx23.other (p := ⟨b, 0, none⟩) hbb (.int .u64 (n.keys.length : Nat))).other (p := ⟨b, 1, none⟩) hbb (.int .u64 (n.size : Nat)))
  have hb25 := Lib.hid ((hb23.setCell (p := ⟨b, 0, none⟩) hbge (.int .u64 (n.keys.length : Nat))).setCell (p := ⟨b, 1, none⟩) hbge (.int .u64 (n.size : Nat)))
  have hT3H := Lib.hid hT3
  clear hbxw3 hbx23 hb23 hT3 hbxwH hbx2H hb2H
  refine wpActs_step _ rfl (fun K1 hK1 => ?_)
  go_wp2
  refine hK1 _ _ ⟨⟨_, _, hT3H.out.trans (Turn.own1 (F := fun k => k = b) rfl 0 _)⟩, rfl⟩ ?_
  refine wpActs_step _ rfl (fun K2 hK2 => ?_)
  go_wp2
  refine hK2 _ _ ⟨⟨_, _, hT3H.out.trans (Turn.own1 (F := fun k => k = b) rfl 0 _)⟩, rfl⟩ ?_
  refine wpActs_step _ rfl (fun K3 hK3 => ?_)
  go_wp2
  refine hK3 _ _ ⟨⟨_, _, (hT3H.out.trans (Turn.own1 (F := fun k => k = b) rfl 0 _)).trans (Turn.own1 (F := fun k => k = b) rfl 1 _)⟩, rfl⟩ ?_
  refine wpActs_nil ?_
  obtain ⟨W5, hW5⟩ : ∃ W, W = ((W3.setCell ⟨b, 0, none⟩ (.int .u64 (n.keys.length : Nat))).setCell ⟨b, 1, none⟩ (.int .u64 (n.size : Nat))) := ⟨_, rfl⟩
  rw [← hW5] at hbxw5 hbx25 hb25 ⊢
  have hlt5 : b < W5.heap.size := hbxw5.out.lt
  have hst5 : Hid (Box W5 b 30 (wordsV (BN.stg t n (2 + 2 * 0)))) := Lib.hid (by
    have h9 := hbxw5.out
    rw [wordsV_set, wordsV_set, show n.keys.length = n.wdAt t 0 from rfl, BN.stg_succ (by omega), show n.size = n.wdAt t 1 from rfl, BN.stg_succ (by omega)] at h9
    exact h9)
  have d0 := hbx25.out.at' (i := 0) rfl
  clear hbxw5 hW5 q0 q1 q2 q3 hT3H hlt3 hK1 hK2 hK3
  go_wp2_with fail
  go_loopw [25] (fun iv wr => ∃ k : Nat, k ≤ n.keys.length ∧ iv = .int .i64 k ∧ Hid (Box wr b 30 (wordsV (BN.stg t n (2 + 2 * k)))) ∧ Hid (Box wr bn 66 [.slice Ak n.keys.length ck, .slice Av n.vals.length cv, .slice Ai n.kids.length ci, .int .u64 (n.size : Nat)]) ∧ Hid (Below w.heap.size w wr)) (fun iv _ => n.keys.length - (intOf iv).toNat)
  case atStart => exact ⟨0, by omega, rfl, hst5, hbx25, hb25⟩
  case round =>
    obtain ⟨k, hk, rfl, hbw, hbn, hbl⟩ := hrel
    clear d0 hst5 hbx25 hb25 hlt5
    have hltb : b < wr.heap.size := hbw.out.lt
    by_cases hlt : k < n.keys.length
    · have hkv : k < n.vals.length := by rw [hnvH.out]; exact hlt
      obtain ⟨bk, ok, hAk, hbk, hkc⟩ := hck.out k hlt
      obtain ⟨bv, ov, hAv, hbv, hvc⟩ := hcv.out k hkv
      have hkc1 := hkc wr hbl.out
      have hvc1 := hvc wr hbl.out
      have hwk1 : Hid (n.wdAt t (2 + 2 * k) = n.keys[k]) := Lib.hid (by rw [BN.at_key (by omega), List.getD_eq_getElem?_getD, List.getElem?_eq_getElem hlt]; rfl)
      have hwv1 : Hid (n.wdAt t (2 + 2 * k + 1) = n.vals[k]) := Lib.hid (by rw [BN.at_val (by omega), List.getD_eq_getElem?_getD, List.getElem?_eq_getElem hkv]; rfl)
      subst hAk hAv
      generalize n.keys[k] = xk at *
      generalize n.vals[k] = xv at *
      have c0 := fun X : Kp wr (fun k => k = b) => Kp.cell (hbn.out.at' (i := 0) rfl) hbb X
      have c1 := fun X : Kp wr (fun k => k = b) => Kp.cell (hbn.out.at' (i := 1) rfl) hbb X
      have w1 : IntKind.i64.wrap (2 * (k : Int)) = 2 * (k : Int) := by rw [IntKind.wrap_i64]; omega
      have w2 : IntKind.i64.wrap (2 + 2 * (k : Int)) = 2 + 2 * (k : Int) := by rw [IntKind.wrap_i64]; omega
      have w3 : IntKind.i64.wrap (2 + 2 * (k : Int) + 1) = 2 + 2 * (k : Int) + 1 := by rw [IntKind.wrap_i64]; omega
      have nk1 : bk ≠ b := by omega
      have nv1 : bv ≠ b := by omega
      have c2 := fun X : Kp wr (fun k => k = b) => Kp.cell hkc1 nk1 X
      have c3 := fun X : Kp wr (fun k => k = b) => Kp.cell hvc1 nv1 X
      clear hkc hvc hkc1 hvc1
      go_wp2
      refine wp_region_row (fun w' => ∃ X : Kp wr (fun k => k = b), w' = X.W) [0, 1, 2, 3, 4, 5, 6, 7, 8, 9, 10, 11, 12, 13, 14, 15, 16, 17, 18, 19] [20, 21, 22] hmo (by kernel_rfl) rfl (by kernel_rfl) (Kp.start _ _) (fun _ _ d _ _ h => by cases d <;> exact h) ?_
      refine wpReads_step _ _ rfl rfl (by rintro _ ⟨X, rfl⟩; go_simp; exact rfl) ?_
      go_simp
      refine wpReads_step _ _ rfl rfl (by rintro _ ⟨X, rfl⟩; go_simp; exact rfl) ?_
      go_simp
      refine wpReads_step _ _ rfl rfl (by rintro _ ⟨X, rfl⟩; go_simp; exact rfl) ?_
      go_simp
      refine wpReads_step _ _ rfl rfl (by rintro _ ⟨X, rfl⟩; go_simp; exact rfl) ?_
      go_simp
      refine wpReads_step _ _ rfl rfl (by rintro _ ⟨X, rfl⟩; go_simp; exact rfl) ?_
      go_simp
      refine wpReads_step _ _ rfl rfl (by rintro _ ⟨X, rfl⟩; go_simp; exact rfl) ?_
      go_simp
      refine wpReads_step _ _ rfl rfl (by rintro _ ⟨X, rfl⟩; go_simp; exact rfl) ?_
      go_simp
      refine wpReads_step _ _ rfl rfl (by rintro _ ⟨X, rfl⟩; go_simp; exact rfl) ?_
      go_simp
      refine wpReads_step _ _ rfl rfl (by rintro _ ⟨X, rfl⟩; go_simp; exact rfl) ?_
      go_simp
      refine wpReads_step _ _ rfl rfl (by rintro _ ⟨X, rfl⟩; go_simp; exact rfl) ?_
      go_simp
      refine wpReads_step _ _ rfl rfl (by rintro _ ⟨X, rfl⟩; go_simp; exact rfl) ?_
      go_simp
      refine wpReads_step _ _ rfl rfl (by rintro _ ⟨X, rfl⟩; go_simp; exact rfl) ?_
      go_simp
      refine wpReads_step _ _ rfl rfl (by rintro _ ⟨X, rfl⟩; go_simp; first | exact rfl | rw [if_pos (by omega)]) ?_
      go_simp
      refine wpReads_step _ _ rfl rfl (by rintro _ ⟨X, rfl⟩; go_simp; exact rfl) ?_
      go_simp
      refine wpReads_step _ _ rfl rfl (by rintro _ ⟨X, rfl⟩; go_simp; exact rfl) ?_
      go_simp
      refine wpReads_step _ _ rfl rfl (by rintro _ ⟨X, rfl⟩; go_simp; exact rfl) ?_
      go_simp
      refine wpReads_step _ _ rfl rfl (by rintro _ ⟨X, rfl⟩; go_simp; exact rfl) ?_
      go_simp
      refine wpReads_step _ _ rfl rfl (by rintro _ ⟨X, rfl⟩; go_simp; first | exact rfl | rw [if_pos (by omega)]) ?_
      go_simp
      refine wpReads_step _ _ rfl rfl (by rintro _ ⟨X, rfl⟩; go_simp; exact rfl) ?_
      go_simp
      refine wpReads_step _ _ rfl rfl (by rintro _ ⟨X, rfl⟩; go_simp; first | exact rfl | rw [if_pos (by omega)]) ?_
      go_simp
      refine wpReads_nil ?_
      clear c0 c1 c2 c3
      have hbd : Below wr.heap.size wr wr.drew := below_drawn wr
      change wpActs _ _ _ _ _ _ wr.drew
      have hbw2 := hbw.out.below hbd
      have hbn2 := hbn.out.below hbd
      have hbl2 := hbl.out.trans (hbd.mono hbl.out.size)
      have hT2 : Turn wr (fun k => k = b) wr.drew (fun k => k = b) := Turn.below hbd
      clear hbd
      generalize wr.drew = W3 at *
      have q0 : W3.cell? ⟨b, 2 + 2 * k, none⟩ = some (.int .u64 0) := hbw2.at' (i := 2 + 2 * k) (by unfold wordsV; rw [List.getElem?_map, BN.stg_get? _ _ _ _ (by omega), if_neg (by omega)]; rfl)
      have q1 : W3.cell? ⟨b, 2 + 2 * k + 1, none⟩ = some (.int .u64 0) := hbw2.at' (i := 2 + 2 * k + 1) (by unfold wordsV; rw [List.getElem?_map, BN.stg_get? _ _ _ _ (by omega), if_neg (by omega)]; rfl)
      have q2 : W3.frozen? ⟨b, 2 + 2 * k, none⟩ = false := hbw2.free _
      have q3 : W3.frozen? ⟨b, 2 + 2 * k + 1, none⟩ = false := hbw2.free _
      have q4 : (W3.setCell ⟨b, 2 + 2 * k, none⟩ (.int .u64 (xk : Nat))).frozen? ⟨b, 2 + 2 * k + 1, none⟩ = false := (hbw2.set (2 + 2 * k) (.int .u64 (xk : Nat))).free (2 + 2 * k + 1)
      have hst3 : Hid (Box ((W3.setCell ⟨b, 2 + 2 * k, none⟩ (.int .u64 (xk : Nat))).setCell ⟨b, 2 + 2 * k + 1, none⟩ (.int .u64 (xv : Nat))) b 30 (wordsV (BN.stg t n (2 + 2 * (k + 1))))) := Lib.hid (by
        have h9 := (hbw2.set (2 + 2 * k) (.int .u64 (xk : Nat))).set (2 + 2 * k + 1) (.int .u64 (xv : Nat))
        rw [wordsV_set, wordsV_set, ← hwk1.out, BN.stg_succ (by omega), ← hwv1.out, BN.stg_succ (by omega)] at h9
        rw [hwk1.out, hwv1.out] at h9
        exact h9)
      have hbn3 := Lib.hid ((hbn2.other (p := ⟨b, 2 + 2 * k, none⟩) hbb (.int .u64 (xk : Nat))).other (p := ⟨b, 2 + 2 * k + 1, none⟩) hbb (.int .u64 (xv : Nat)))
      have hbl3 := Lib.hid ((hbl2.setCell (p := ⟨b, 2 + 2 * k, none⟩) hbge (.int .u64 (xk : Nat))).setCell (p := ⟨b, 2 + 2 * k + 1, none⟩) hbge (.int .u64 (xv : Nat)))
      have hT3H := Lib.hid hT2
      clear hbw2 hbn2 hbl2 hT2 hbw hbn hbl hwk1 hwv1
      refine wpActs_step _ rfl (fun K1 hK1 => ?_)
      go_wp2
      · exact absurd (‹W3.frozen? ⟨b, 2 + 2 * k, none⟩ = true›) (by rw [q2]; simp)
      refine hK1 _ _ ⟨⟨_, _, hT3H.out.trans (Turn.own1 (F := fun k => k = b) rfl (2 + 2 * k) _)⟩, rfl⟩ ?_
      refine wpActs_step _ rfl (fun K2 hK2 => ?_)
      go_wp2
      refine hK2 _ _ ⟨⟨_, _, hT3H.out.trans (Turn.own1 (F := fun k => k = b) rfl (2 + 2 * k) _)⟩, rfl⟩ ?_
      refine wpActs_step _ rfl (fun K3 hK3 => ?_)
      go_wp2
      refine hK3 _ _ ⟨⟨_, _, (hT3H.out.trans (Turn.own1 (F := fun k => k = b) rfl (2 + 2 * k) _)).trans (Turn.own1 (F := fun k => k = b) rfl (2 + 2 * k + 1) _)⟩, rfl⟩ ?_
      refine wpActs_nil ?_
      clear q0 q1 q2 q3 q4 hT3H hK1 hK2 hK3
      go_wp2
      go_roundw
      case rel => exact ⟨k + 1, by omega, by go_num, hst3, hbn3, hbl3⟩
      case measure => simp [intOf]; omega
    · obtain rfl : k = n.keys.length := by omega
      have hst2 : Hid (Box wr b 30 (wordsV (BN.stg t n (4 * t + 0)))) := Lib.hid (by have h9 := hbw.out; rw [BN.stg_mid hfH.out] at h9; exact h9)
      have d2 := hbn.out.at' (i := 2) rfl
      have hbl2 := Lib.hid hbl.out
      clear hbw hbn hbl hck hcv hlt
      go_wp2_with fail
      go_loopw [53] (fun iv wr => ∃ k : Nat, k ≤ n.kids.length ∧ iv = .int .i64 k ∧ Hid (Box wr b 30 (wordsV (BN.stg t n (4 * t + k)))) ∧ Hid (Below w.heap.size w wr)) (fun iv _ => n.kids.length - (intOf iv).toNat)
      case atStart => exact ⟨0, by omega, rfl, hst2, hbl2⟩
      case round =>
        obtain ⟨k, hk, rfl, hbw, hbl⟩ := hrel
        clear d2 hst2 hbl2
        have hltb := hbw.out.lt
        by_cases hlt : k < n.kids.length
        · skip
          obtain ⟨bi, oi, hAi, hbi, hic⟩ := hci.out k hlt
          have hic1 := hic wr hbl.out
          have hwi1 : Hid (n.wdAt t (4 * t + k) = n.kids[k]) := Lib.hid (by rw [BN.at_kid t1, List.getD_eq_getElem?_getD, List.getElem?_eq_getElem hlt]; rfl)
          subst hAi
          generalize n.kids[k] = xi at *
          have q0 : wr.cell? ⟨b, 4 * t + k, none⟩ = some (.int .u64 0) := hbw.out.at' (i := 4 * t + k) (by unfold wordsV; rw [List.getElem?_map, BN.stg_get? _ _ _ _ (by omega), if_neg (by omega)]; rfl)
          have q2 : wr.frozen? ⟨b, 4 * t + k, none⟩ = false := hbw.out.free _
          have w1 : IntKind.i64.wrap (4 * (t : Int)) = 4 * (t : Int) := by rw [IntKind.wrap_i64]; omega
          have w2 : IntKind.i64.wrap (4 * (t : Int) + (k : Int)) = 4 * (t : Int) + (k : Int) := by rw [IntKind.wrap_i64]; omega
          have hst3 : Hid (Box (wr.setCell ⟨b, 4 * t + k, none⟩ (.int .u64 (xi : Nat))) b 30 (wordsV (BN.stg t n (4 * t + (k + 1))))) := Lib.hid (by
            have h9 := hbw.out.set (4 * t + k) (.int .u64 (xi : Nat))
            rw [wordsV_set, ← hwi1.out, BN.stg_succ (by omega)] at h9
            rw [hwi1.out] at h9
            exact h9)
          have hbl3 := Lib.hid (hbl.out.setCell (p := ⟨b, 4 * t + k, none⟩) hbge (.int .u64 (xi : Nat)))
          clear hic hbw hbl hwi1
          go_wp2
          go_roundw
          case rel => exact ⟨k + 1, by omega, by go_num, hst3, hbl3⟩
          case measure => simp [intOf]; omega
        · obtain rfl : k = n.kids.length := by omega
          have hA := Lib.hid (slAll_at (some ⟨b, 0, none⟩) (6 * t) (6 * t))
          have hst3 : Hid (Box wr b 30 (wordsV (n.wd t))) := Lib.hid (by have h9 := hbw.out; rw [BN.stg_end t1] at h9; exact h9)
          have hbl3 := Lib.hid hbl.out
          clear hbw hbl
          go_wp2_with fail
          refine (hA.out _).mono ?_
          rintro e W7 ⟨rfl, hW7⟩
          have hb7 : Below wr.heap.size wr W7 := by rw [hW7]; exact (Below.refl _ _).alloc (Nat.le_refl _) _
          have hc7 : W7.cell? ⟨wr.heap.size, 0, none⟩ = some (.slice (some ⟨b, 0, none⟩) (6 * t) (6 * t)) := by rw [hW7]; go_simp
          have hfin : Hid (WordsIt w (n.wd t) (.returned (.func (.func 121) #[] #[.pointer (some ⟨wr.heap.size, 0, none⟩)])) W7) := Lib.hid ⟨b, wr.heap.size, rfl, hbge, hbl3.out.size, by rw [BN.wd_len]; exact hc7, fun j u hu => (hst3.out.below hb7).at' hu, (hst3.out.below hb7).lt, hbl3.out.trans (hb7.mono hbl3.out.size)⟩
          clear hW7 hb7 hc7
          go_wp2
          go_ret
          exact hfin.out
end Go.Proofs.YtjcpclcmnhpgpaaGreatDoor

set_option linter.unusedVariables false
set_option linter.unusedSimpArgs false
namespace Go.Proofs.YtjcpclcmnhpgpaaGreatDoor
open Go.RowKit Go.Shelf
attribute [local go_sem] Oper.semAt_some wide_fn
def KeepTwo (b bx : Nat) (A B : World) : Prop := A.heap.size ≤ B.heap.size ∧ B.heap[b]? = A.heap[b]? ∧ B.heap[bx]? = A.heap[bx]?
theorem KeepTwo.trans {b bx : Nat} {A B C : World} (h : KeepTwo b bx A B) (k : KeepTwo b bx B C) : KeepTwo b bx A C := ⟨Nat.le_trans h.1 k.1, k.2.1.trans h.2.1, k.2.2.trans h.2.2⟩
theorem KeepTwo.refl (b bx : Nat) (A : World) : KeepTwo b bx A A := ⟨Nat.le_refl _, rfl, rfl⟩
theorem KeepTwo.turn {b bx : Nat} {A B : World} {F F' : Nat → Prop} (h : Turn A F B F') (h1 : b < A.heap.size) (h2 : bx < A.heap.size) (f1 : ¬ F b) (f2 : ¬ F bx) : KeepTwo b bx A B := ⟨h.size, h.keep b h1 f1, h.keep bx h2 f2⟩
theorem KeepTwo.put {b bx l : Nat} (W : World) (o : Obj) (h1 : b ≠ l) (h2 : bx ≠ l) : KeepTwo b bx W (W.putObj l o) := ⟨by simp, World.putObj_heap_other h1, World.putObj_heap_other h2⟩
set_option maxHeartbeats 2000000 in
set_option maxRecDepth 100000 in
theorem all_stops {w : World} {b bx : Nat} {ws : List Nat} (hx : w.cell? ⟨bx, 0, none⟩ = some (.slice (some ⟨b, 0, none⟩) ws.length ws.length)) (hc : ∀ j u, (wordsV ws)[j]? = some u → w.cell? ⟨b, j, none⟩ = some u) (hb : b < w.heap.size) (hl : ws.length ≤ 1000) :
    SeqStopsK Fence.wide 8 Tryz.prog 121 #[.pointer (some ⟨bx, 0, none⟩)] (fun z : {z : Nat // z < ws.length} => #[.int .i64 (z.1 : Nat), .int .u64 (ws[z.1]'z.2 : Nat)]) (KeepTwo b bx) (fun xs => xs.map (·.1) = List.range ws.length) (fun pre => ∃ t, List.range ws.length = pre.map (·.1) ++ t) ws.length w := fun l J Jx W hBW hJ hJx hY h0 => by
  have hx1 := (hBW.cell (p := ⟨bx, 0, none⟩) (cell_lt hx)).trans hx
  have hc0 : Hid (∀ j (h : j < ws.length), W.cell? ⟨b, j, none⟩ = some (.int .u64 (ws[j] : Nat))) := Lib.hid (fun j h => (hBW.cell (p := ⟨b, j, none⟩) hb).trans (hc j _ (by simp [wordsV, h])))
  have J0 := Lib.hid h0
  clear hBW hx hc hb h0
  refine callsIn_of_wp Tryz.func121 rfl trivial ?_ rfl
  simp only [Tryz.ntmps121, List.size_toArray, List.length_cons, List.length_nil, Nat.reduceAdd, Nat.reduceSub, Array.replicate_succ, Array.replicate_zero, List.push_toArray, List.append_toArray, List.nil_append, List.cons_append]
  gi_wp2_with fail
  gi_loopw [7] (fun iv wr => ∃ (pre : List {z : Nat // z < ws.length}) (i : Nat), i ≤ ws.length ∧ iv = .int .i64 i ∧ Hid (pre.map (·.1) = List.range i) ∧ Hid (∀ j (h : j < ws.length), wr.cell? ⟨b, j, none⟩ = some (.int .u64 (ws[j] : Nat))) ∧ Hid (J pre wr)) (fun iv _ => ws.length - (intOf iv).toNat)
  case atStart => exact ⟨[], 0, by omega, rfl, Lib.hid rfl, hc0, J0⟩
  case round =>
    obtain ⟨pre, i, hi, rfl, hp, hcs, hj⟩ := hrel
    by_cases hlt : i < ws.length
    · have hci := hcs.out i hlt
      have hpl : pre.length = i := by have := congrArg List.length hp.out; simpa using this
      have hYH := Lib.hid hY
      clear hY hx1
      gi_wp2_with fail
      obtain ⟨fn, tmps, assign, body, hy, hRr⟩ := hYH.out pre ⟨i, hlt⟩ _ hj.out (by omega)
      have hRH2 := Lib.hid hRr
      clear hRr
      rw [hy]
      gi_wp2
      refine (hRH2.out).mono ?_
      have hmap : Hid ((pre ++ [(⟨i, hlt⟩ : {z : Nat // z < ws.length})]).map (·.1) = List.range (i + 1)) := Lib.hid (by rw [List.map_append, hp.out, List.range_succ]; rfl)
      rintro e W2 (⟨rfl, hJ2, hK2⟩ | ⟨rfl, hJx2⟩)
      · have hcs2 : Hid (∀ j (h : j < ws.length), W2.cell? ⟨b, j, none⟩ = some (.int .u64 (ws[j] : Nat))) := Lib.hid (fun j h => (World.cell?_of_block (a := ⟨b, j, none⟩) hK2.2.1).trans (hcs.out j h))
        have hJ4 := Lib.hid hJ2
        clear hJ2 hK2 hci
        gi_wp2
        go_roundw
        case rel => exact ⟨pre ++ [⟨i, hlt⟩], i + 1, by omega, by go_num, hmap, hcs2, hJ4⟩
        case measure => simp [intOf]; omega
      · have hJx4 := Lib.hid hJx2
        clear hJx2
        gi_wp2
        refine bodyPost_ret (results_none rfl _ _ _) rfl ?_
        refine ⟨⟨_, rfl⟩, .inr ⟨_, ⟨(List.range ws.length).drop (i + 1), ?_⟩, hJx4.out⟩⟩
        rw [hmap.out]
        have := List.take_append_drop (i + 1) (List.range ws.length)
        rw [List.take_range, Nat.min_eq_left (by omega)] at this
        exact this.symm
    · obtain rfl : i = ws.length := by omega
      clear hY
      gi_wp2
      go_end0
      exact ⟨⟨_, rfl⟩, .inl ⟨_, hp.out, hj.out⟩⟩
end Go.Proofs.YtjcpclcmnhpgpaaGreatDoor

/-
  The seat's own texts, part u: Grow, BnW1, AvM, AvW1, AvW2, MadeP, ReadT, Law, Two, AvT, AvA, AvB, AvT2, Joined, AvJ, Shr, WrongP, RankP.
-/
import Derived.Test.YtjcpclcmnhpgpaaGreatDoorFMt
import Derived.Deep.DeepMust
import Derived.WalkLawsBesides

set_option linter.unusedVariables false
set_option linter.unusedSimpArgs false
namespace Go.Proofs.YtjcpclcmnhpgpaaGreatDoor
open Go.RowKit Go.Shelf
structure GrowOut (R R' : Nat → Option (List Nat)) (t : BT) : Prop where
  at' : t.At R'
  nodup : t.hs.Nodup
  fresh : ∀ x ∈ t.hs, R x = none
  old : ∀ x, x ∉ t.hs → R' x = R x
  nz : ∀ x ∈ t.hs, x ≠ 0
theorem BT.At.congr {R R' : Nat → Option (List Nat)} : ∀ {t : BT}, t.At R → (∀ x ∈ t.hs, R' x = R x) → t.At R'
  | .nil, _, _ => trivial
  | .node h kh vh m k v l r, ⟨h1, h2, h3, h4, h5, h6, hl, hr⟩, he => by
    simp only [BT.hs, List.mem_append, List.mem_cons] at he
    exact ⟨h1, (he h (by simp)).trans h2, (he kh (by simp)).trans h3, (he vh (by simp)).trans h4, h5, h6, hl.congr (fun x hx => he x (.inl hx)), hr.congr (fun x hx => he x (.inr (.inr (.inr (.inr hx)))))⟩
theorem GrowOut.nil (R : Nat → Option (List Nat)) : GrowOut R R .nil := ⟨trivial, List.nodup_nil, fun x hx => by simp [BT.hs] at hx, fun x _ => rfl, fun x hx => by simp [BT.hs] at hx⟩
theorem GrowOut.some {R R' : Nat → Option (List Nat)} {t : BT} (g : GrowOut R R' t) {x : Nat} (hx : x ∈ t.hs) : R' x ≠ none := BT.hs_in t g.at' x hx
theorem GrowOut.keep {R R' : Nat → Option (List Nat)} {t : BT} (g : GrowOut R R' t) {x : Nat} (hx : R x ≠ none) : R' x = R x := g.old x (fun h => hx (g.fresh x h))
def CellsF (w : World) (F : Nat → Prop) (A : Option Addr) (vs : List Value) : Prop :=
  vs = [] ∨ ∃ b o, A = some ⟨b, o, none⟩ ∧ b < w.heap.size ∧ ¬ F b ∧ ∀ j u, vs[j]? = some u → w.cell? ⟨b, o + j, none⟩ = some u
section
variable {w w' : World} {F F' : Nat → Prop} {A : Option Addr} {vs : List Value}
theorem CellsF.turn (h : CellsF w F A vs) (ht : Turn w F w' F') : CellsF w' F' A vs := by
  rcases h with h | ⟨b, o, h1, h2, h3, h4⟩
  · exact .inl h
  · exact .inr ⟨b, o, h1, Nat.lt_of_lt_of_le h2 ht.size, ht.not h2 h3, fun j u hu => ht.cell (h4 j u hu) h3⟩
theorem CellsF.at' (h : CellsF w F A vs) {k : Nat} {u : Value} (hk : vs[k]? = some u) : ∃ b o, A = some ⟨b, o, none⟩ ∧ w.cell? ⟨b, o + k, none⟩ = some u := by
  rcases h with rfl | ⟨b, o, h1, h2, h3, h4⟩
  · simp at hk
  · exact ⟨b, o, h1, h4 k u hk⟩
theorem CellsF.take (h : CellsF w F A vs) (k : Nat) : CellsF w F A (vs.take k) := by
  rcases h with rfl | ⟨b, o, h1, h2, h3, h4⟩
  · left; simp
  · refine .inr ⟨b, o, h1, h2, h3, fun j u hu => h4 j u ?_⟩
    rw [List.getElem?_take] at hu
    split at hu
    · exact hu
    · cases hu
theorem CellsF.pairs {l : List Pr} (h : CellsF w F A (prsV l)) {k : Nat} (hk : k < l.length) : ∃ b o, A = some ⟨b, o, none⟩ ∧ w.cell? ⟨b, o + k * 2, none⟩ = some (.string l[k].1) ∧ w.cell? ⟨b, o + k * 2 + 1, none⟩ = some (.string l[k].2) := by
  obtain ⟨h1, h2⟩ := prsV_at l k hk
  obtain ⟨b, o, e, hc⟩ := h.at' h1
  obtain ⟨b', o', e', hc'⟩ := h.at' h2
  rw [e] at e'
  cases e'
  exact ⟨b, o, e, hc, by rw [Nat.add_assoc]; exact hc'⟩
end
theorem StoreIs.more {w : World} {s : Nat} {F : Nat → Prop} {R : Nat → Option (List Nat)} {H : List Nat} {P P' q most last G G' : Nat} (h : StoreIs w s F R H P q most last G) (hP : P ≤ P') (hG : G ≤ G') : StoreIs w s F R H P' q most last G' := by
  obtain ⟨a, ha, t, v, L, mem, sl, Fh, h⟩ := h
  exact ⟨a, ha, t, v, L, mem, sl, Fh, { h with pages := Nat.le_trans h.pages hP, gens := fun x hx => Nat.le_trans (h.gens x hx) hG }⟩
theorem pgsN_le {n : Nat} (h : n ≤ 128) : pgsN n ≤ 3 := by unfold pgsN; split <;> omega
theorem words_le {b : ByteArray} (h : b.size ≤ 1000) : (Tx.wordsL b.data.toList).length ≤ 126 := by
  rw [Tx.wordsL_length, Tx.size_list]
  unfold Tx.many
  omega
end Go.Proofs.YtjcpclcmnhpgpaaGreatDoor

set_option linter.unusedVariables false
set_option linter.unusedSimpArgs false
namespace Go.Proofs.YtjcpclcmnhpgpaaGreatDoor
open Go.RowKit Go.Shelf
set_option maxRecDepth 100000 in
theorem bnIs_at (t : Int) (w : World) : Calls Tryz.prog 58 #[.int .i64 t] w fun e w' => e = .returned (.bool (decide (2 ≤ t) && decide (t ≤ 16))) ∧ w = w' := by
  by_cases h1 : 2 ≤ t
  · have d1 : decide (2 ≤ t) = true := decide_eq_true h1
    go_enter Tryz.func58, Tryz.ntmps58
    go_wp2
    go_ret
    exact ⟨by rw [d1]; rfl, rfl⟩
  · have d1 : decide (2 ≤ t) = false := decide_eq_false h1
    go_enter Tryz.func58, Tryz.ntmps58
    go_wp2
    go_ret
    exact ⟨rfl, rfl⟩
theorem bnIs_yes {t : Nat} (h : BN.Deg t) (w : World) : Calls Tryz.prog 58 #[.int .i64 (t : Nat)] w fun e w' => e = .returned (.bool true) ∧ w = w' := by
  have := bnIs_at (t : Nat) w
  rw [decide_eq_true (by have := h.1; omega : (2 : Int) ≤ (t : Nat)), decide_eq_true (by have := h.2; omega : ((t : Nat) : Int) ≤ 16)] at this
  exact this
set_option maxRecDepth 100000 in
theorem bnWords_yes {t : Nat} (h : BN.Deg t) (w : World) : Calls Tryz.prog 68 #[.int .i64 (t : Nat)] w fun e w' => e = .returned (.int .i64 (6 * t : Nat)) ∧ w = w' := by
  have hI := Lib.hid (bnIs_yes h w)
  have h2 := h.2
  clear h
  go_enter Tryz.func68, Tryz.ntmps68
  go_wp2_with fail
  refine hI.out.mono ?_
  rintro e w1 ⟨rfl, rfl⟩
  go_wp2
  go_ret
  exact ⟨by simp, rfl⟩
theorem hsV_len (l : List Nat) : (hsV l).length = l.length := by simp [hsV]
theorem hsV_get {l : List Nat} {k : Nat} (h : k < l.length) : (hsV l)[k]? = some (.int .u64 (l[k] : Nat)) := by simp [hsV, h]
set_option maxRecDepth 100000 in
theorem slIdx_at {w : World} {F : Nat → Prop} {A : Option Addr} {c : Nat} {l : List Nat} (h : CellsF w F A (hsV l)) (hl : l.length ≤ 4398046511104) (x : Nat) :
    Calls Tryz.prog 120 #[.slice A l.length c, .int .u64 (x : Nat)] w fun e w' => (∃ z : Int, e = .returned (.int .i64 z) ∧ (0 ≤ z ↔ x ∈ l)) ∧ w = w' := by
  have hH := Lib.hid h
  clear h
  go_enter Tryz.func120, Tryz.ntmps120
  go_wp2_with fail
  go_loopw [8] (fun iv wr => ∃ k : Nat, k ≤ l.length ∧ iv = .int .i64 k ∧ wr = w ∧ Hid (x ∉ l.take k)) (fun iv _ => l.length - (intOf iv).toNat)
  case atStart => exact ⟨0, by omega, rfl, rfl, Lib.hid (by simp)⟩
  case round =>
    obtain ⟨k, hk, rfl, rfl, hno⟩ := hrel
    by_cases hlt : k < l.length
    · obtain ⟨b, o, hA, c1⟩ := hH.out.at' (hsV_get hlt)
      have hsn : Hid (l.take (k + 1) = l.take k ++ [l[k]]) := Lib.hid (List.take_succ_eq_append_getElem hlt)
      have hmem : Hid (l[k] ∈ l) := Lib.hid (List.getElem_mem hlt)
      generalize l[k] = y at *
      subst hA
      by_cases hxy : x = y
      · have d : ((x : Int) == (y : Int)) = true := by simp [hxy]
        go_wp2
        go_ret
        exact ⟨⟨_, rfl, ⟨fun _ => by rw [hxy]; exact hmem.out, fun _ => by omega⟩⟩, rfl⟩
      · have d : ((x : Int) == (y : Int)) = false := by simp; omega
        go_wp2
        go_roundw
        case rel => exact ⟨k + 1, by omega, by go_num, by first | rfl | trivial, Lib.hid (by rw [hsn.out]; simp only [List.mem_append, List.mem_singleton, not_or]; exact ⟨hno.out, hxy⟩)⟩
        case measure => simp [intOf]; omega
    · obtain rfl : k = l.length := by omega
      have hno2 : Hid (x ∉ l) := Lib.hid (by have := hno.out; rwa [List.take_length] at this)
      go_wp2
      go_ret
      exact ⟨⟨_, rfl, ⟨fun h => by omega, fun h => absurd h hno2.out⟩⟩, rfl⟩
set_option maxRecDepth 100000 in
theorem slHas_at {w : World} {F : Nat → Prop} {A : Option Addr} {c : Nat} {l : List Nat} (h : CellsF w F A (hsV l)) (hl : l.length ≤ 4398046511104) (x : Nat) :
    Calls Tryz.prog 90 #[.slice A l.length c, .int .u64 (x : Nat)] w fun e w' => e = .returned (.bool (decide (x ∈ l))) ∧ w = w' := by
  have hI := Lib.hid (slIdx_at (c := c) h hl x)
  clear h
  go_enter Tryz.func90, Tryz.ntmps90
  go_wp2_with fail
  refine hI.out.mono ?_
  rintro e w1 ⟨⟨z, rfl, hz⟩, rfl⟩
  have hzH := Lib.hid hz
  clear hz hI
  go_wp2
  go_ret
  exact ⟨by congr 2; simp [hzH.out], rfl⟩
structure BNV (w : World) (F : Nat → Prop) (v : Value) (n : BN) : Prop where
  form : ∃ Ak ck Av cv Ai ci, v = .agg #[.slice Ak n.keys.length ck, .slice Av n.vals.length cv, .slice Ai n.kids.length ci, .int .u64 (n.size : Nat)] ∧ CellsF w F Ak (hsV n.keys) ∧ CellsF w F Av (hsV n.vals) ∧ CellsF w F Ai (hsV n.kids)
  lens : n.keys.length ≤ 4398046511104 ∧ n.vals.length ≤ 4398046511104 ∧ n.kids.length ≤ 4398046511104
theorem BNV.turn {w w' : World} {F F' : Nat → Prop} {v : Value} {n : BN} (h : BNV w F v n) (hT : Turn w F w' F') : BNV w' F' v n := by
  obtain ⟨⟨Ak, ck, Av, cv, Ai, ci, h1, h2, h3, h4⟩, h5⟩ := h
  exact ⟨⟨Ak, ck, Av, cv, Ai, ci, h1, h2.turn hT, h3.turn hT, h4.turn hT⟩, h5⟩
set_option maxHeartbeats 2000000 in
set_option maxRecDepth 100000 in
theorem bnFits_at {w : World} {F : Nat → Prop} {v : Value} {n : BN} (h : BNV w F v n) (t : Nat) (ht : BN.Deg t) :
    Calls Tryz.prog 61 #[.int .i64 (t : Nat), v] w fun e w' => e = .returned (.bool (decide (n.Fits t))) ∧ Below w.heap.size w w' := by
  obtain ⟨⟨Ak, ck, Av, cv, Ai, ci, rfl, h1, h2, h3⟩, l1, l2, l3⟩ := h
  have hb0 : Below w.heap.size w (w.alloc (Obj.cells #[.slice Ak n.keys.length ck, .slice Av n.vals.length cv, .slice Ai n.kids.length ci, .int .u64 (n.size : Nat)] 66)) := (Below.refl _ w).alloc (Nat.le_refl _) _
  have hI := Lib.hid (bnIs_yes ht (w.alloc (Obj.cells #[.slice Ak n.keys.length ck, .slice Av n.vals.length cv, .slice Ai n.kids.length ci, .int .u64 (n.size : Nat)] 66)))
  have hC := Lib.hid (slHas_at (c := ci) (h3.turn (Turn.below (F := F) hb0)) l3 0)
  have hb0H := Lib.hid hb0
  have t2 := ht.2
  have t1 := ht.1
  have hfin : Hid (∀ b : Bool, (b = true ↔ (n.kids = [] ∨ (n.kids.length = n.keys.length + 1 ∧ 0 ∉ n.kids))) → (decide (n.Fits t)) = (decide (n.keys.length ≤ 2 * t - 1) && (decide (n.vals.length = n.keys.length) && b))) := Lib.hid (fun b hb => by
    rw [Bool.eq_iff_iff, decide_eq_true_iff, Bool.and_eq_true, Bool.and_eq_true, decide_eq_true_iff, decide_eq_true_iff, hb]
    exact Iff.rfl)
  clear h1 h2 h3 hb0
  by_cases k0 : n.kids = []
  · have hz : Hid ((true = true) ↔ (n.kids = [] ∨ (n.kids.length = n.keys.length + 1 ∧ 0 ∉ n.kids))) := Lib.hid (by simp [k0])
    have hfin2 := Lib.hid (hfin.out true hz.out)
    have e0 : n.kids.length = 0 := by rw [k0]; rfl
    rw [hfin2.out, e0]
    rw [e0] at hI hC hb0H
    clear hfin hfin2 hz k0
    generalize n.keys.length = nk at *
    generalize n.vals.length = nv at *
    have d1 : decide (nk ≤ 2 * t - 1) = decide ((nk : Int) ≤ 2 * (t : Int) - 1) := by congr 1; simp; omega
    rw [d1]
    clear d1
    by_cases c1 : (nk : Int) ≤ 2 * (t : Int) - 1
    · have d2 := decide_eq_true c1
      by_cases c2 : nv = nk
      · subst c2
        have d3 : ((nv : Int) == (nv : Int)) = true := by simp
        go_enter Tryz.func61, Tryz.ntmps61
        go_wp2_with fail
        refine hI.out.mono ?_
        rintro e w1 ⟨rfl, rfl⟩
        go_wp2
        go_ret
        exact ⟨by first | (simp [c1]; done) | (simp [c1, c2]; done) | (simp; omega) | (simp; intro h; omega), hb0H.out⟩
      · have d3 : ((nv : Int) == (nk : Int)) = false := by simp; omega
        go_enter Tryz.func61, Tryz.ntmps61
        go_wp2_with fail
        refine hI.out.mono ?_
        rintro e w1 ⟨rfl, rfl⟩
        go_wp2
        go_ret
        exact ⟨by first | (simp [c1]; done) | (simp [c1, c2]; done) | (simp; omega) | (simp; intro h; omega), hb0H.out⟩
    · have d2 := decide_eq_false c1
      go_enter Tryz.func61, Tryz.ntmps61
      go_wp2_with fail
      refine hI.out.mono ?_
      rintro e w1 ⟨rfl, rfl⟩
      go_wp2
      go_ret
      exact ⟨by first | (simp [c1]; done) | (simp [c1, c2]; done) | (simp; omega) | (simp; intro h; omega), hb0H.out⟩
  · have e0 : (((n.kids.length : Nat) : Int) == 0) = false := by
      have : n.kids.length ≠ 0 := fun e => k0 (List.eq_nil_of_length_eq_zero e)
      simp; omega
    by_cases k1 : n.kids.length = n.keys.length + 1
    · have e1 : (((n.kids.length : Nat) : Int) == ((n.keys.length : Nat) : Int) + 1) = true := by simp; omega
      have hz : Hid ((decide (0 ∉ n.kids)) = true ↔ (n.kids = [] ∨ (n.kids.length = n.keys.length + 1 ∧ 0 ∉ n.kids))) := Lib.hid (by simp [k0, k1])
      have hfin2 := Lib.hid (hfin.out _ hz.out)
      rw [hfin2.out]
      have hk9 : (decide (0 ∉ n.kids)) = !(decide (0 ∈ n.kids)) := by simp
      rw [hk9]
      clear hfin hfin2 hz k0 hk9
      generalize decide (0 ∈ n.kids) = z0 at *
      generalize n.kids.length = ni at *
      generalize n.keys.length = nk at *
      generalize n.vals.length = nv at *
      subst k1
      have d1 : decide (nk ≤ 2 * t - 1) = decide ((nk : Int) ≤ 2 * (t : Int) - 1) := by congr 1; simp; omega
      rw [d1]
      clear d1
      by_cases c1 : (nk : Int) ≤ 2 * (t : Int) - 1
      · have d2 := decide_eq_true c1
        by_cases c2 : nv = nk
        · subst c2
          have d3 : ((nv : Int) == (nv : Int)) = true := by simp
          cases z0
          all_goals
            go_enter Tryz.func61, Tryz.ntmps61
            go_wp2_with fail
            refine hC.out.mono ?_
            rintro e w1 ⟨rfl, rfl⟩
            go_wp2_with fail
            refine hI.out.mono ?_
            rintro e w1 ⟨rfl, rfl⟩
            go_wp2
            go_ret
            exact ⟨by first | (simp [c1]; done) | (simp [c1, c2]; done) | (simp; omega) | (simp; intro h; omega), hb0H.out⟩
        · have d3 : ((nv : Int) == (nk : Int)) = false := by simp; omega
          cases z0
          all_goals
            go_enter Tryz.func61, Tryz.ntmps61
            go_wp2_with fail
            refine hC.out.mono ?_
            rintro e w1 ⟨rfl, rfl⟩
            go_wp2_with fail
            refine hI.out.mono ?_
            rintro e w1 ⟨rfl, rfl⟩
            go_wp2
            go_ret
            exact ⟨by first | (simp [c1]; done) | (simp [c1, c2]; done) | (simp; omega) | (simp; intro h; omega), hb0H.out⟩
      · have d2 := decide_eq_false c1
        cases z0
        all_goals
          go_enter Tryz.func61, Tryz.ntmps61
          go_wp2_with fail
          refine hC.out.mono ?_
          rintro e w1 ⟨rfl, rfl⟩
          go_wp2_with fail
          refine hI.out.mono ?_
          rintro e w1 ⟨rfl, rfl⟩
          go_wp2
          go_ret
          exact ⟨by first | (simp [c1]; done) | (simp [c1, c2]; done) | (simp; omega) | (simp; intro h; omega), hb0H.out⟩
    · have e1 : (((n.kids.length : Nat) : Int) == ((n.keys.length : Nat) : Int) + 1) = false := by simp; omega
      have hz : Hid ((false = true) ↔ (n.kids = [] ∨ (n.kids.length = n.keys.length + 1 ∧ 0 ∉ n.kids))) := Lib.hid (by simp [k0, k1])
      have hfin2 := Lib.hid (hfin.out false hz.out)
      rw [hfin2.out]
      clear hfin hfin2 hz k0 hC
      generalize n.kids.length = ni at *
      generalize n.keys.length = nk at *
      generalize n.vals.length = nv at *
      have d1 : decide (nk ≤ 2 * t - 1) = decide ((nk : Int) ≤ 2 * (t : Int) - 1) := by congr 1; simp; omega
      rw [d1]
      clear d1
      by_cases c1 : (nk : Int) ≤ 2 * (t : Int) - 1
      · have d2 := decide_eq_true c1
        by_cases c2 : nv = nk
        · subst c2
          have d3 : ((nv : Int) == (nv : Int)) = true := by simp
          go_enter Tryz.func61, Tryz.ntmps61
          go_wp2_with fail
          refine hI.out.mono ?_
          rintro e w1 ⟨rfl, rfl⟩
          go_wp2
          go_ret
          exact ⟨by first | (simp [c1]; done) | (simp [c1, c2]; done) | (simp; omega) | (simp; intro h; omega), hb0H.out⟩
        · have d3 : ((nv : Int) == (nk : Int)) = false := by simp; omega
          go_enter Tryz.func61, Tryz.ntmps61
          go_wp2_with fail
          refine hI.out.mono ?_
          rintro e w1 ⟨rfl, rfl⟩
          go_wp2
          go_ret
          exact ⟨by first | (simp [c1]; done) | (simp [c1, c2]; done) | (simp; omega) | (simp; intro h; omega), hb0H.out⟩
      · have d2 := decide_eq_false c1
        go_enter Tryz.func61, Tryz.ntmps61
        go_wp2_with fail
        refine hI.out.mono ?_
        rintro e w1 ⟨rfl, rfl⟩
        go_wp2
        go_ret
        exact ⟨by first | (simp [c1]; done) | (simp [c1, c2]; done) | (simp; omega) | (simp; intro h; omega), hb0H.out⟩
end Go.Proofs.YtjcpclcmnhpgpaaGreatDoor

set_option linter.unusedVariables false
set_option linter.unusedSimpArgs false
namespace Go.Proofs.YtjcpclcmnhpgpaaGreatDoor
open Go.RowKit Go.Shelf
def toU (z : Int) : Nat := (z % 18446744073709551616).toNat
theorem toU_lt (z : Int) : toU z < 18446744073709551616 := by
  unfold toU
  have h1 := Int.emod_nonneg z (show (18446744073709551616 : Int) ≠ 0 by omega)
  have h2 := Int.emod_lt_of_pos z (show (0 : Int) < 18446744073709551616 by omega)
  omega
def putN (R : Nat → Option (List Nat)) (x : Nat) (nd : Nd) : Nat → Option (List Nat) := if nodeE R x = 0 then updR R x (some nd.ws) else R
theorem putN_other {R : Nat → Option (List Nat)} {x y : Nat} {nd : Nd} (h : y ≠ x) : putN R x nd y = R y := by
  unfold putN
  split
  · exact updR_other h
  · rfl
theorem putN_same {R : Nat → Option (List Nat)} {x : Nat} {nd : Nd} (h : nodeE R x = 0) : putN R x nd x = some nd.ws := by
  unfold putN
  rw [if_pos h, updR_same]
def avH (R : Nat → Option (List Nat)) (x : Nat) : Int := wrap64 (nodeG R x).mark
def withN (R : Nat → Option (List Nat)) (t : Nd) (l r : Nat) : Nd :=
  ⟨t.key, t.val, l, r, toU (wrap64 (max (avH R l) (avH R r) + 1)), toU (wrap64 (wrap64 (tsizeR R l + tsizeR R r) + 1))⟩
def withR (R : Nat → Option (List Nat)) (t : Nd) (x l r : Nat) : Nat → Option (List Nat) := putN R x (withN R t l r)
def KeepsN (R R' : Nat → Option (List Nat)) : Prop := ∀ x, (nodeE R' x = nodeE R x ∧ (nodeE R x ≠ 0 → R' x = R x)) ∧ (nodeG R' x).key = (nodeG R x).key ∧ (nodeG R' x).val = (nodeG R x).val
theorem KeepsN.refl (R : Nat → Option (List Nat)) : KeepsN R R := fun _ => ⟨⟨rfl, fun _ => rfl⟩, rfl, rfl⟩
theorem KeepsN.trans {R R1 R2 : Nat → Option (List Nat)} (h : KeepsN R R1) (k : KeepsN R1 R2) : KeepsN R R2 := fun x => ⟨⟨(k x).1.1.trans (h x).1.1, fun hx => ((k x).1.2 (by rw [(h x).1.1]; exact hx)).trans ((h x).1.2 hx)⟩, (k x).2.1.trans (h x).2.1, (k x).2.2.trans (h x).2.2⟩
theorem nodeE_congr {R R' : Nat → Option (List Nat)} {x : Nat} (h : R' x = R x) : nodeE R' x = nodeE R x ∧ nodeG R' x = nodeG R x := by
  unfold nodeE nodeG nodeR
  rw [h]
  exact ⟨rfl, rfl⟩
theorem KeepsN.put {R : Nat → Option (List Nat)} {x : Nat} {nd : Nd} (hk : nodeE R x = 0 → nd.key = (nodeG R x).key ∧ nd.val = (nodeG R x).val) : KeepsN R (putN R x nd) := fun y => by
  by_cases e : y = x
  · subst e
    by_cases h0 : nodeE R y = 0
    · obtain ⟨e1, e2⟩ := nodeR_at (putN_same (nd := nd) h0)
      rw [e1, e2, h0]
      exact ⟨⟨rfl, fun hx => absurd rfl hx⟩, hk h0⟩
    · unfold putN
      rw [if_neg h0]
      exact ⟨⟨rfl, fun _ => rfl⟩, rfl, rfl⟩
  · obtain ⟨e1, e2⟩ := nodeE_congr (putN_other (nd := nd) (R := R) e)
    rw [e1, e2]
    exact ⟨⟨rfl, fun _ => putN_other e⟩, rfl, rfl⟩
theorem KeepsN.with {R : Nat → Option (List Nat)} {t : Nd} {x l r : Nat} (hk : t.key = (nodeG R x).key ∧ t.val = (nodeG R x).val) : KeepsN R (withR R t x l r) := KeepsN.put fun _ => hk
end Go.Proofs.YtjcpclcmnhpgpaaGreatDoor

set_option linter.unusedVariables false
set_option linter.unusedSimpArgs false
namespace Go.Proofs.YtjcpclcmnhpgpaaGreatDoor
open Go.RowKit Go.Shelf
section
variable {w w' : World} {s N : Nat} {R : Nat → Option (List Nat)} {n : Nat}
theorem wrapU (z : Int) : IntKind.u64.wrap z = ((toU z : Nat) : Int) := by
  have h1 := Int.emod_nonneg z (show (18446744073709551616 : Int) ≠ 0 by omega)
  unfold toU
  rw [Int.toNat_of_nonneg h1]
  rfl
section
variable {F : Nat → Prop} {H : List Nat} {P q most last G : Nat}
end
end
end Go.Proofs.YtjcpclcmnhpgpaaGreatDoor

set_option linter.unusedVariables false
set_option linter.unusedSimpArgs false
namespace Go.Proofs.YtjcpclcmnhpgpaaGreatDoor
open Go.RowKit Go.Shelf
structure Kp (w : World) (F : Nat → Prop) where
  W : World
  F' : Nat → Prop
  h : Turn w F W F'
theorem Kp.cell {w : World} {F : Nat → Prop} {p : Addr} {v : Value} (hc : w.cell? p = some v) (hF : ¬ F p.block) (X : Kp w F) : X.W.cell? p = some v := X.h.cell hc hF
theorem Kp.start (w : World) (F : Nat → Prop) : ∃ X : Kp w F, { w with drawn := w.drawn + 1 } = X.W := ⟨⟨_, F, Turn.below (below_drawn w)⟩, rfl⟩
section
variable {w w' : World} {s : Nat} {F : Nat → Prop} {R : Nat → Option (List Nat)} {H : List Nat} {P q most last G : Nat}
end
end Go.Proofs.YtjcpclcmnhpgpaaGreatDoor

set_option linter.unusedVariables false
set_option linter.unusedSimpArgs false
namespace Go.Proofs.YtjcpclcmnhpgpaaGreatDoor
open Go.RowKit Go.Shelf
theorem rank_split {k : ByteArray} : ∀ {l : List Pr}, Rising l → (∀ q ∈ l.take (rankL l k), Tx.cmp q.1 k < 0) ∧ (∀ q ∈ l.drop (rankL l k), ¬ Tx.cmp q.1 k < 0)
  | [], _ => ⟨fun q hq => by simp at hq, fun q hq => by simp at hq⟩
  | p :: l, h => by
    have h' := List.pairwise_cons.1 h
    rw [rankL_cons]
    by_cases hp : Tx.cmp p.1 k < 0
    · rw [if_pos hp, List.take_succ_cons, List.drop_succ_cons]
      obtain ⟨h1, h2⟩ := rank_split (k := k) h'.2
      refine ⟨fun q hq => ?_, h2⟩
      rcases List.mem_cons.1 hq with rfl | hq
      · exact hp
      · exact h1 q hq
    · have hall : ∀ q ∈ l, ¬ Tx.cmp q.1 k < 0 := fun q hq e => hp (cmp_lt_trans (h'.1 q hq) e)
      rw [if_neg hp, rankL_none hall]
      refine ⟨fun q hq => by simp at hq, fun q hq => ?_⟩
      rcases List.mem_cons.1 hq with rfl | hq
      · exact hp
      · exact hall q hq
theorem putL_rising {l : List Pr} (h : Rising l) (p : Pr) : Rising (putL l p) := by
  obtain ⟨h1, h2⟩ := rank_split (k := p.1) h
  have hle := rankL_le l p.1
  unfold putL
  generalize rankL l p.1 = n at *
  have hgt : ∀ q ∈ l.drop (if (l[n]?).map (·.1) = some p.1 then n + 1 else n), Tx.cmp p.1 q.1 < 0 := by
    intro q hq
    have hsw := cmp_swap p.1 q.1
    have hdr : Rising (l.drop n) := List.Pairwise.sublist (List.drop_sublist n l) h
    by_cases hlt : n < l.length
    · have hd := List.drop_eq_getElem_cons hlt
      rw [List.getElem?_eq_getElem hlt] at hq
      simp only [Option.map_some, Option.some.injEq] at hq
      rw [hd] at hdr h2
      have hdr' := List.pairwise_cons.1 hdr
      by_cases he : l[n].1 = p.1
      · rw [if_pos he] at hq
        have := hdr'.1 q hq
        rw [he] at this
        exact this
      · rw [if_neg he, hd] at hq
        have h3 := h2 q hq
        have hn3 := h2 l[n] List.mem_cons_self
        rcases List.mem_cons.1 hq with rfl | hq
        · have : Tx.cmp l[n].1 p.1 ≠ 0 := fun e => he (cmp_zero.1 e)
          omega
        · have h4 := hdr'.1 q hq
          have : Tx.cmp l[n].1 p.1 ≠ 0 := fun e => he (cmp_zero.1 e)
          have h5 := cmp_swap p.1 l[n].1
          exact cmp_lt_trans (b := l[n].1) (by omega) h4
    · rw [List.getElem?_eq_none (by omega)] at hq
      simp only [Option.map_none, reduceCtorEq, if_false] at hq
      rw [List.drop_eq_nil_of_le (by omega)] at hq
      simp at hq
  unfold Rising
  rw [List.pairwise_append, List.pairwise_cons]
  refine ⟨List.Pairwise.sublist (List.take_sublist n l) h, ⟨hgt, List.Pairwise.sublist (List.drop_sublist _ l) h⟩, fun a ha b hb => ?_⟩
  have h3 := h1 a ha
  rcases List.mem_cons.1 hb with rfl | hb
  · exact h3
  · exact cmp_lt_trans h3 (hgt b hb)
theorem GrowOut.zero {R R' : Nat → Option (List Nat)} {t : BT} (g : GrowOut R R' t) (h : R 0 = none) : R' 0 = none := by
  rw [g.old 0 (fun e => g.nz 0 e rfl), h]
theorem Ints_off {w w' : World} {A : Option Addr} {vs : List Value} {F : Nat → Prop} {B : Nat} (h : CellsF w (fun b => B ≤ b) A vs) (hb : Below B w w') (hF : ∀ b, F b → B ≤ b) (hs : w.heap.size ≤ w'.heap.size) : CellsF w' F A vs := by
  rcases h with h | ⟨b, o, h1, h2, h3, h4⟩
  · exact .inl h
  · have h5 : b < B := Nat.lt_of_not_le h3
    exact .inr ⟨b, o, h1, by omega, fun hf => by have := hF b hf; omega, fun j u hu => (hb.cell (p := ⟨b, o + j, none⟩) h5).trans (h4 j u hu)⟩
end Go.Proofs.YtjcpclcmnhpgpaaGreatDoor

set_option linter.unusedVariables false
set_option linter.unusedSimpArgs false
namespace Go.Proofs.YtjcpclcmnhpgpaaGreatDoor
open Go.RowKit Go.Shelf
structure TreeR (N : Nat) (w : World) (s : Nat) (R : Nat → Option (List Nat)) (n : Nat) (t : BT) (l : List Pr) : Prop where
  rd : Rd N w s R n
  sh : Short R
  z : R 0 = none
  at' : t.At R
  prs : t.prs = l
  ris : Rising l
  nod : t.hs.Nodup
  sz : 8 * t.size ≤ n
def hasK (l : List Pr) (k : ByteArray) : Prop := (l[rankL l k]?).map (·.1) = some k
instance (l : List Pr) (k : ByteArray) : Decidable (hasK l k) := by unfold hasK; infer_instance
section
variable {w w' : World} {s N : Nat} {R : Nat → Option (List Nat)} {n : Nat} {t : BT} {l : List Pr}
theorem TreeR.below (h : TreeR N w s R n t l) (hb : Below w.heap.size w w') : TreeR N w' s R n t l := { h with rd := h.rd.below hb }
theorem TreeR.len (h : TreeR N w s R n t l) : t.size = l.length := by rw [← h.prs, BT.prs_len]
theorem TreeR.nodes_len (h : TreeR N w s R n t l) : t.nodes.length = l.length := by rw [BT.nodes_len, h.len]
theorem TreeR.le (h : TreeR N w s R n t l) : l.length ≤ 32768 := by
  have h1 := h.rd.le
  have h2 := h.sz
  have h3 := h.len
  omega
end
end Go.Proofs.YtjcpclcmnhpgpaaGreatDoor

set_option linter.unusedVariables false
set_option linter.unusedSimpArgs false
namespace Go.Proofs.YtjcpclcmnhpgpaaGreatDoor
open Go.RowKit Go.Shelf
theorem sized_of {l : List Pr} (h : longL l = false) : ∀ p ∈ l, p.1.size ≤ 1000 ∧ p.2.size ≤ 1000 := by
  intro p hp
  unfold longL at h
  rw [List.any_eq_false] at h
  have := h p hp
  simp at this
  exact this
theorem CellsF.prs {w : World} {F : Nat → Prop} {A : Option Addr} {l : List Pr} (h : CellsF w F A (prsV l)) : Prs w w.heap.size A l := by
  rcases h with h | ⟨b, o, h1, h2, h3, h4⟩
  · left
    cases l with
    | nil => rfl
    | cons p l => simp [prsV] at h
  · exact .inr ⟨b, o, h1, h2, h4⟩
def ILaw (w : World) (A : Option Addr) (l : List Pr) : Prop := CellsF w (fun b => w.heap.size ≤ b) A (prsV l) ∧ Sized l ∧ l.length ≤ 9223372036854775807
abbrev TrueB (w : World) : Ending → World → Prop := fun e w' => e = .returned (.bool true) ∧ Below w.heap.size w w'
end Go.Proofs.YtjcpclcmnhpgpaaGreatDoor

set_option linter.unusedVariables false
set_option linter.unusedSimpArgs false
namespace Go.Proofs.YtjcpclcmnhpgpaaGreatDoor
open Go.RowKit Go.Shelf
section
variable {w w' : World} {s N : Nat} {F : Nat → Prop} {R R' : Nat → Option (List Nat)} {H : List Nat} {P q most last G n : Nat}
theorem GrowOut.other {t t' : BT} (g : GrowOut R R' t) (h : t'.At R) : t'.At R' := h.congr fun x hx => g.keep (BT.hs_in t' h x hx)
theorem GrowOut.apart {t t' : BT} (g : GrowOut R R' t) (h : t'.At R) : ∀ x ∈ t'.hs, x ∉ t.hs := fun x hx hm => BT.hs_in t' h x hx (g.fresh x hm)
theorem StoreIs.kb {Cs : Nat → Prop} (h : StoreIs w s F R H P q most last G) (hk : KB Cs w w') (hF : ∀ k, Cs k → ¬ F k) (hs : ¬ Cs s) (hp : ∀ k, Cs k → ∀ p, w.cell? ⟨k, 0, none⟩ ≠ some (.pointer p)) (ht : ¬ Cs 1) : StoreIs w' s F R H P q most last G := by
  obtain ⟨a, ha, t, v, L, mem, sl, Fh, h⟩ := h
  have hFe := h.F_eq
  have hha : ¬ Cs ha := fun hc => by
    obtain ⟨⟨mb, D, k1, rfl⟩, _, _⟩ := h.heap
    exact hp ha hc _ k1.hs
  exact ⟨a, ha, t, v, L, mem, sl, Fh, { h with
    ca := hk.cell h.ca hs
    ch := hk.cell h.ch hs
    ct := hk.cell h.ct hs
    heap := h.heap.kb hk (fun k hf hc => hF k hc (by rw [hFe]; exact .inl hf)) hha ht
    tab := h.tab.kb hk (fun b hf hc => hF b hc (by rw [hFe]; exact .inr hf)) }⟩
end
end Go.Proofs.YtjcpclcmnhpgpaaGreatDoor

set_option linter.unusedVariables false
set_option linter.unusedSimpArgs false
namespace Go.Proofs.YtjcpclcmnhpgpaaGreatDoor
open Go.RowKit Go.Shelf
namespace BT
def mk : BT → Nat
  | nil => 0
  | node _ _ _ m _ _ _ _ => m
def hgt : BT → Nat
  | nil => 0
  | node _ _ _ _ _ _ l r => max l.hgt r.hgt + 1
def Avl : BT → Prop
  | nil => True
  | node _ _ _ m _ _ l r => m = max l.hgt r.hgt + 1 ∧ l.hgt ≤ r.hgt + 1 ∧ r.hgt ≤ l.hgt + 1 ∧ l.Avl ∧ r.Avl
theorem Avl.mk : ∀ {t : BT}, t.Avl → t.mk = t.hgt
  | nil, _ => rfl
  | node _ _ _ _ _ _ _ _, h => h.1
structure Sim (t t' : BT) : Prop where
  hs : t'.hs = t.hs
  nodes : t'.nodes = t.nodes
  prs : t'.prs = t.prs
theorem Sim.refl (t : BT) : Sim t t := ⟨rfl, rfl, rfl⟩
theorem Sim.trans {a b c : BT} (h : Sim a b) (k : Sim b c) : Sim a c := ⟨k.hs.trans h.hs, k.nodes.trans h.nodes, k.prs.trans h.prs⟩
theorem Sim.symm {a b : BT} (h : Sim a b) : Sim b a := ⟨h.hs.symm, h.nodes.symm, h.prs.symm⟩
theorem Sim.size {a b : BT} (h : Sim a b) : b.size = a.size := by rw [← nodes_len, ← nodes_len, h.nodes]
theorem Sim.nodup {a b : BT} (h : Sim a b) (n : a.hs.Nodup) : b.hs.Nodup := by rw [h.hs]; exact n
theorem Sim.mem {a b : BT} (h : Sim a b) {z : Nat} (n : z ∉ a.nodes) : z ∉ b.nodes := by rw [h.nodes]; exact n
section
variable {R : Nat → Option (List Nat)}
end
end BT
end Go.Proofs.YtjcpclcmnhpgpaaGreatDoor

set_option linter.unusedVariables false
set_option linter.unusedSimpArgs false
namespace Go.Proofs.YtjcpclcmnhpgpaaGreatDoor
open Go.RowKit Go.Shelf
namespace BT
end BT
end Go.Proofs.YtjcpclcmnhpgpaaGreatDoor

set_option linter.unusedVariables false
set_option linter.unusedSimpArgs false
namespace Go.Proofs.YtjcpclcmnhpgpaaGreatDoor
open Go.RowKit Go.Shelf
namespace BT
section
variable {R : Nat → Option (List Nat)} {x kx vx mx y ky vy my z kz vz mz : Nat} {k v k' v' k2 v2 : ByteArray} {A B C D E G : BT}
end
end BT
end Go.Proofs.YtjcpclcmnhpgpaaGreatDoor

set_option linter.unusedVariables false
set_option linter.unusedSimpArgs false
namespace Go.Proofs.YtjcpclcmnhpgpaaGreatDoor
open Go.RowKit Go.Shelf
namespace BT
section
variable {R : Nat → Option (List Nat)}
end
end BT
end Go.Proofs.YtjcpclcmnhpgpaaGreatDoor

set_option linter.unusedVariables false
set_option linter.unusedSimpArgs false
namespace Go.Proofs.YtjcpclcmnhpgpaaGreatDoor
open Go.RowKit Go.Shelf
section
variable {R0 R1 R2 R3 R4 : Nat → Option (List Nat)} {tl tr t : BT} {x kx vx m m0 : Nat} {k v : ByteArray}
theorem GrowOut.on {ta tb : BT} (g : GrowOut R1 R2 tb) (h : ta.At R1) : ta.At R2 := h.congr fun z hz => g.keep (BT.hs_in ta h z hz)
theorem GrowOut.off {ta tb : BT} (g : GrowOut R1 R2 tb) (h : ta.At R1) : ∀ z ∈ ta.hs, z ∉ tb.hs := fun z hz hz' => BT.hs_in ta h z hz (g.fresh z hz')
end
end Go.Proofs.YtjcpclcmnhpgpaaGreatDoor

set_option linter.unusedVariables false
set_option linter.unusedSimpArgs false
namespace Go.Proofs.YtjcpclcmnhpgpaaGreatDoor
open Go.RowKit Go.Shelf
end Go.Proofs.YtjcpclcmnhpgpaaGreatDoor

set_option linter.unusedVariables false
set_option linter.unusedSimpArgs false
namespace Go.Proofs.YtjcpclcmnhpgpaaGreatDoor
open Go.RowKit Go.Shelf
end Go.Proofs.YtjcpclcmnhpgpaaGreatDoor

set_option linter.unusedVariables false
set_option linter.unusedSimpArgs false
namespace Go.Proofs.YtjcpclcmnhpgpaaGreatDoor
open Go.RowKit Go.Shelf
end Go.Proofs.YtjcpclcmnhpgpaaGreatDoor

set_option linter.unusedVariables false
set_option linter.unusedSimpArgs false
namespace Go.Proofs.YtjcpclcmnhpgpaaGreatDoor
open Go.RowKit Go.Shelf
end Go.Proofs.YtjcpclcmnhpgpaaGreatDoor

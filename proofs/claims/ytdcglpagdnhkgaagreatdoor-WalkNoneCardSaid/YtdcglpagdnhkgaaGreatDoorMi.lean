/-
  The seat's own texts, part i: ReadT, Awk, Laid, Finds, Open.
-/
import Derived.Test.YtdcglpagdnhkgaaGreatDoorMh
import Derived.Test.YtdcglpagdnhkgaaGreatDoorRows
import Derived.ProofKit
import Derived.LaidMore
import Derived.OpenShut
import Derived.ShutString
import Derived.ChangeOld
import Derived.Stop.Joined
import Derived.Deep.Slices
import Derived.Deep.Fields
import Derived.ChangeSame
import Derived.Deep.SlicePairs
import Derived.ChangeSlices
/- What the walk layer tells of a right tree, in its list's words. -/
set_option linter.unusedVariables false
set_option linter.unusedSimpArgs false
namespace Go.Proofs.YtdcglpagdnhkgaaGreatDoor
open Go.RowKit Go.Shelf
/-- a right tree of pairs in a store that is only read -/
structure TreeR (N : Nat) (w : World) (s : Nat) (R : Nat → Option (List Nat)) (n : Nat) (t : BT) (l : List Pr) : Prop where
  rd : Rd N w s R n
  sh : Short R
  z : R 0 = none
  at' : t.At R
  prs : t.prs = l
  ris : Rising l
  nod : t.hs.Nodup
  sz : 8 * t.size ≤ n
def hasK (l : List Pr) (k : ByteArray) : Prop := (l[rankL l k]?).map (·.1) = some k
instance (l : List Pr) (k : ByteArray) : Decidable (hasK l k) := by unfold hasK; infer_instance
theorem hasK_lt {l : List Pr} {k : ByteArray} (h : hasK l k) : ∃ hl : rankL l k < l.length, l[rankL l k].1 = k := by
  unfold hasK at h
  by_cases hl : rankL l k < l.length
  · rw [List.getElem?_eq_getElem hl] at h
    exact ⟨hl, by simpa using h⟩
  · rw [List.getElem?_eq_none (by omega)] at h
    cases h
section
variable {w w' : World} {s N : Nat} {R : Nat → Option (List Nat)} {n : Nat} {t : BT} {l : List Pr}
theorem TreeR.below (h : TreeR N w s R n t l) (hb : Below w.heap.size w w') : TreeR N w' s R n t l := { h with rd := h.rd.below hb }
theorem TreeR.len (h : TreeR N w s R n t l) : t.size = l.length := by rw [← h.prs, BT.prs_len]
theorem TreeR.nodes_len (h : TreeR N w s R n t l) : t.nodes.length = l.length := by rw [BT.nodes_len, h.len]
theorem TreeR.le (h : TreeR N w s R n t l) : l.length ≤ 32768 := by
  have h1 := h.rd.le
  have h2 := h.sz
  have h3 := h.len
  omega
theorem TreeR.node_nz (h : TreeR N w s R n t l) {x : Nat} (hx : x ∈ t.nodes) : x ≠ 0 := fun e => by
  obtain ⟨nd, hnd⟩ := BT.nodes_six t h.at' x hx
  rw [e, h.z] at hnd
  cases hnd
theorem TreeR.root_lt (h : TreeR N w s R n t l) : t.root < 18446744073709551616 := BT.root_lt h.at' h.rd
theorem TreeR.node_lt (h : TreeR N w s R n t l) {x : Nat} (hx : x ∈ t.nodes) : x < 18446744073709551616 := by
  obtain ⟨nd, hnd⟩ := BT.nodes_six t h.at' x hx
  exact (h.rd.u64 hnd).1
theorem TreeR.rankR (h : TreeR N w s R n t l) (k : ByteArray) : Go.Proofs.YtdcglpagdnhkgaaGreatDoor.rankR R n t.root k = (rankL l k : Nat) := by
  have h1 := h.rd.le
  have h2 := h.sz
  have := (BT.findR_at h.at' h.z (n := n) (by omega) (by omega) k).2
  rw [this, BT.rank_list k t (by rw [h.prs]; exact h.ris), h.prs]
theorem TreeR.findR (h : TreeR N w s R n t l) (k : ByteArray) : Go.Proofs.YtdcglpagdnhkgaaGreatDoor.findR R n t.root k = if hasK l k then (t.nodes[rankL l k]?).getD 0 else 0 := by
  have h1 := h.rd.le
  have h2 := h.sz
  have := (BT.findR_at h.at' h.z (n := n) (by omega) (by omega) k).1
  rw [this, BT.find_list k t, BT.rank_list k t (by rw [h.prs]; exact h.ris), h.prs]
  rfl
theorem tfind_yes (h : TreeR N w s R n t l) {k : ByteArray} (hk : hasK l k) : ∃ hl : rankL l k < t.nodes.length, Calls Tryz.prog 15 #[.pointer (some ⟨s, 0, none⟩), .int .u64 (t.root : Nat), .string k] w fun e w' => e = .returned (.tuple #[.int .u64 (t.nodes[rankL l k] : Nat), .bool true]) ∧ Below w.heap.size w w' := by
  obtain ⟨hl, _⟩ := hasK_lt hk
  have hl2 : rankL l k < t.nodes.length := by rw [h.nodes_len]; exact hl
  refine ⟨hl2, ?_⟩
  have hf := find_at' h.rd h.sh t.root h.root_lt k
  rw [h.findR k, if_pos hk, List.getElem?_eq_getElem hl2] at hf
  have hnz := h.node_nz (List.getElem_mem hl2)
  rw [show ((some t.nodes[rankL l k]).getD 0 != 0) = true by simpa using hnz] at hf
  exact hf
theorem tfind_no (h : TreeR N w s R n t l) {k : ByteArray} (hk : ¬ hasK l k) : Calls Tryz.prog 15 #[.pointer (some ⟨s, 0, none⟩), .int .u64 (t.root : Nat), .string k] w fun e w' => e = .returned (.tuple #[.int .u64 0, .bool false]) ∧ Below w.heap.size w w' := by
  have hf := find_at' h.rd h.sh t.root h.root_lt k
  rw [h.findR k, if_neg hk] at hf
  exact hf
theorem trank_at (h : TreeR N w s R n t l) (k : ByteArray) : Calls Tryz.prog 17 #[.pointer (some ⟨s, 0, none⟩), .int .u64 (t.root : Nat), .string k] w fun e w' => e = .returned (.int .i64 (rankL l k : Nat)) ∧ Below w.heap.size w w' := by
  have hf := rank_at h.rd h.sh t.root h.root_lt k
  rw [h.rankR k] at hf
  exact hf
theorem tpair_at (h : TreeR N w s R n t l) {i : Nat} (hi : i < l.length) (hi2 : i < t.nodes.length) : Calls Tryz.prog 19 #[.pointer (some ⟨s, 0, none⟩), .int .u64 (t.nodes[i] : Nat)] w fun e w' => e = .returned (.tuple #[.agg #[.string l[i].1, .string l[i].2], .int .i64 0]) ∧ Below w.heap.size w w' := by
  have hi3 : i < t.ents.length := by have := congrArg List.length (BT.ents_nodes t); rw [List.length_map] at this; omega
  have e1 : t.nodes[i] = t.ents[i].h := by
    have : t.nodes[i]? = some (t.ents[i].h) := by rw [← BT.ents_nodes, List.getElem?_map, List.getElem?_eq_getElem hi3]; rfl
    rw [List.getElem?_eq_getElem hi2] at this
    exact Option.some.inj this
  have e2 : l[i] = (t.ents[i].k, t.ents[i].v) := by
    have : l[i]? = some (t.ents[i].k, t.ents[i].v) := by rw [← h.prs, ← BT.ents_prs, List.getElem?_map, List.getElem?_eq_getElem hi3]; rfl
    rw [List.getElem?_eq_getElem hi] at this
    exact Option.some.inj this
  have h1 := h.rd.le
  have h2 := h.sz
  obtain ⟨a1, a2, a3, a4, a5, _⟩ := BT.ents_at t h.at' (by omega) t.ents[i] (List.getElem_mem hi3)
  obtain ⟨p1, p2⟩ := En.At.pair a1 a2 a3 a4 a5
  have hp := pair_at h.rd h.sh t.nodes[i] (h.node_lt (List.getElem_mem hi2))
  rw [e1, p1, p2] at hp
  rw [e1, e2]
  exact hp
theorem tat_in (h : TreeR N w s R n t l) {i : Int} (h0 : 0 ≤ i) (hi : i < l.length) (hi2 : i.toNat < t.nodes.length) : Calls Tryz.prog 20 #[.pointer (some ⟨s, 0, none⟩), .int .u64 (t.root : Nat), .int .i64 i] w fun e w' => e = .returned (.tuple #[.int .u64 (t.nodes[i.toNat] : Nat), .int .i64 0]) ∧ Below w.heap.size w w' := by
  have h1 := h.rd.le
  have h2 := h.sz
  have h3 := h.len
  have hf := wat_at h.rd t.root h.root_lt i
  rw [BT.spotAt_at h.at' h.z (n := n) (by omega) (by omega) i, dif_pos ⟨h0, by omega⟩] at hf
  exact hf
theorem tat_out (h : TreeR N w s R n t l) {i : Int} (hi : ¬ (0 ≤ i ∧ i < l.length)) : Calls Tryz.prog 20 #[.pointer (some ⟨s, 0, none⟩), .int .u64 (t.root : Nat), .int .i64 i] w fun e w' => e = .returned (.tuple #[.int .u64 0, .int .i64 2]) ∧ Below w.heap.size w w' := by
  have h1 := h.rd.le
  have h2 := h.sz
  have h3 := h.len
  have hf := wat_at h.rd t.root h.root_lt i
  rw [BT.spotAt_at h.at' h.z (n := n) (by omega) (by omega) i, dif_neg (by rw [h3]; exact hi)] at hf
  exact hf
theorem tsize_at (h : TreeR N w s R n t l) : Calls Tryz.prog 14 #[.pointer (some ⟨s, 0, none⟩), .int .u64 (t.root : Nat)] w fun e w' => e = .returned (.int .i64 (l.length : Nat)) ∧ Below w.heap.size w w' := by
  have h1 := h.rd.le
  have h2 := h.sz
  have hf := size_at h.rd t.root h.root_lt
  rw [BT.tsize_at h.at' h.z (by omega), h.len] at hf
  exact hf
theorem tcheck_at (h : TreeR N w s R n t l) : Calls Tryz.prog 13 #[.pointer (some ⟨s, 0, none⟩), .int .u64 (t.root : Nat)] w fun e w' => e = .returned (.int .i64 0) ∧ Below w.heap.size w w' := by
  have h1 := h.rd.le
  have h2 := h.sz
  have hf := check_at h.rd h.sh t.root h.root_lt
  rw [BT.check_at h.at' (by rw [h.prs]; exact h.ris) h.nod (n := n) (by omega) (by omega)] at hf
  exact hf
theorem tlist_at (h : TreeR N w s R n t l) : Calls Tryz.prog 21 #[.pointer (some ⟨s, 0, none⟩), .int .u64 (t.root : Nat)] w fun e w' => ∃ v, e = .returned v ∧ w'.ownsRow w.heap.size 28 1 v l.length (hsV t.nodes) ∧ Below w.heap.size w w' := by
  have h1 := h.rd.le
  have h2 := h.sz
  have hf := list_at h.rd t.root h.root_lt
  rw [BT.inR_at h.at' (n := n) (by omega), h.nodes_len] at hf
  exact hf
end
theorem MadeOut.tree {w w' : World} {l l0 : List Pr} {s c : Nat} {t : BT} {F : Nat → Prop} {R : Nat → Option (List Nat)} {H : List Nat} {A : Option Addr} (h : MadeOut w w' l s t F R H A c) (hl : l = sortedL l0) : ∃ n, TreeR w'.heap.size w' s R n t l ∧ WordsR R H (9 * l.length) n := by
  obtain ⟨n, hrd, hwd⟩ := h.st.rd
  exact ⟨n, ⟨hrd, h.out.short (fun x ws e => by cases e), h.out.zero rfl, h.out.at', h.prs, by rw [hl]; exact sortedL_rising l0, h.out.nodup, BT.size_words h.out.at' h.out.nodup h.st.dom hwd⟩, hwd⟩
def awakeL : List Pr := [(⟨#[97]⟩, ⟨#[]⟩), (⟨#[98]⟩, ⟨#[]⟩), (⟨#[99]⟩, ⟨#[120]⟩)]
theorem awakeL_sorted : sortedL awakeL = awakeL := by decide +kernel
theorem awakeL_has : hasK awakeL ⟨#[99]⟩ := by decide +kernel
theorem awakeL_rank : rankL awakeL ⟨#[99]⟩ = 2 ∧ rankL awakeL ⟨#[98, 98]⟩ = 2 := by decide +kernel
end Go.Proofs.YtdcglpagdnhkgaaGreatDoor
/- loftlaw11.awake. -/
set_option linter.unusedVariables false
set_option linter.unusedSimpArgs false
namespace Go.Proofs.YtdcglpagdnhkgaaGreatDoor
open Go.RowKit Go.Shelf
theorem lit3 (w : World) : CellsF (w.alloc (.cells #[.string ⟨#[97]⟩, .string ⟨#[]⟩, .string ⟨#[98]⟩, .string ⟨#[]⟩, .string ⟨#[99]⟩, .string ⟨#[120]⟩] 39)) (fun b => (w.alloc (.cells #[.string ⟨#[97]⟩, .string ⟨#[]⟩, .string ⟨#[98]⟩, .string ⟨#[]⟩, .string ⟨#[99]⟩, .string ⟨#[120]⟩] 39)).heap.size ≤ b) (some ⟨w.heap.size, 0, none⟩) (prsV awakeL) := by
  refine .inr ⟨w.heap.size, 0, rfl, by simp, by simp, fun j u hu => ?_⟩
  have hn : (w.alloc (.cells #[.string ⟨#[97]⟩, .string ⟨#[]⟩, .string ⟨#[98]⟩, .string ⟨#[]⟩, .string ⟨#[99]⟩, .string ⟨#[120]⟩] 39)).heap[w.heap.size]? = some (.cells #[.string ⟨#[97]⟩, .string ⟨#[]⟩, .string ⟨#[98]⟩, .string ⟨#[]⟩, .string ⟨#[99]⟩, .string ⟨#[120]⟩] 39 (0, 0)) := World.alloc_heap_new w _
  generalize w.alloc (.cells #[.string ⟨#[97]⟩, .string ⟨#[]⟩, .string ⟨#[98]⟩, .string ⟨#[]⟩, .string ⟨#[99]⟩, .string ⟨#[120]⟩] 39) = V at *
  rw [show prsV awakeL = [.string ⟨#[97]⟩, .string ⟨#[]⟩, .string ⟨#[98]⟩, .string ⟨#[]⟩, .string ⟨#[99]⟩, .string ⟨#[120]⟩] from rfl] at hu
  rcases j with _ | _ | _ | _ | _ | _ | j
  all_goals first | (simp at hu; subst hu; simp [World.cell?, hn]; done) | (simp at hu; done)
theorem awakeL_short : ∀ p ∈ awakeL, p.1.size ≤ 1000 ∧ p.2.size ≤ 1000 := by decide +kernel
set_option maxHeartbeats 2000000 in
set_option maxRecDepth 100000 in
theorem awake_at {w : World} (hT : Tab w) : Calls Tryz.prog 11 #[] w fun e w' => e = .returned (.bool true) ∧ Below w.heap.size w w' := by
  obtain ⟨W, hW⟩ : ∃ W, W = w.alloc (.cells #[.string ⟨#[97]⟩, .string ⟨#[]⟩, .string ⟨#[98]⟩, .string ⟨#[]⟩, .string ⟨#[99]⟩, .string ⟨#[120]⟩] 39) := ⟨_, rfl⟩
  have hbW : Below w.heap.size w W := by rw [hW]; exact (Below.refl _ w).alloc (Nat.le_refl _) _
  have hcf := lit3 w
  rw [← hW] at hcf
  have hM : Calls Tryz.prog 12 #[.slice (some ⟨w.heap.size, 0, none⟩) 3 3, .slice none 0 0] W (MadePost W (sortedL awakeL)) :=
    made_at (hT.below hbW (tab_lt hT)) (c := 3) (l := awakeL) hcf (by decide) awakeL_short (c' := 0) (A' := none) (zs := []) (by simp) (by simp) (.inl rfl)
  rw [awakeL_sorted] at hM
  have hMH := Lib.hid hM
  have hbWH := Lib.hid hbW
  have hWH := Lib.hid hW
  clear hM hcf hbW hW hT
  go_enter Tryz.func11, Tryz.ntmps11
  go_wp2_with fail
  rw [← hWH.out]
  refine hMH.out.mono ?_
  rintro e w1 ⟨s, t, F, R, H, A, c, rfl, hmo⟩
  obtain ⟨n, hTR, _⟩ := hmo.tree awakeL_sorted.symm
  have hb1 := Lib.hid (hbWH.out.trans (hmo.bel.mono hbWH.out.size))
  have hTR1 := Lib.hid hTR
  have hlen : Hid (awakeL.length = 3) := Lib.hid rfl
  clear hmo hTR hMH hWH
  go_wp2_with fail
  obtain ⟨hl, hF⟩ := tfind_yes hTR1.out awakeL_has
  have hnl : Hid (t.nodes.length = 3) := Lib.hid hTR1.out.nodes_len
  obtain ⟨x, hx⟩ : ∃ x, t.nodes[rankL awakeL ⟨#[99]⟩] = x := ⟨_, rfl⟩
  have hx2 : Hid (t.nodes[2]'(by rw [hnl.out]; decide) = x) := Lib.hid (by rw [← hx]; simp only [awakeL_rank.1])
  rw [hx] at hF
  have hFH := Lib.hid hF
  clear hF hx hl
  refine hFH.out.mono ?_
  rintro e w2 ⟨rfl, hb2⟩
  have hb2H := Lib.hid hb2
  have hTR2 := Lib.hid (hTR1.out.below hb2)
  have hP := tpair_at hTR2.out (i := 2) (by decide) (by rw [hnl.out]; decide)
  rw [hx2.out, show awakeL[2].1 = ⟨#[99]⟩ from rfl, show awakeL[2].2 = ⟨#[120]⟩ from rfl] at hP
  have hPH := Lib.hid hP
  clear hb2 hP hFH
  go_wp2_with fail
  refine hPH.out.mono ?_
  rintro e w3 ⟨rfl, hb3⟩
  have hTR3 := Lib.hid (hTR2.out.below hb3)
  have hA := Lib.hid (fun W (hb : Below w3.heap.size w3 W) => tat_out (hTR3.out.below hb) (i := 3) (by rw [hlen.out]; omega))
  have hz3 := hb3.size
  have hb3H := Lib.hid (hb1.out.trans ((hb2H.out.trans (hb3.mono hb2H.out.size)).mono hb1.out.size))
  clear hb3 hPH
  go_wp2_with fail
  have hb4 : Below w3.heap.size w3 (w3.alloc (Obj.cells #[Value.string ⟨#[99]⟩, Value.string ⟨#[120]⟩] 39)) := (Below.refl _ w3).alloc (Nat.le_refl _) _
  have c0 : (w3.alloc (Obj.cells #[Value.string ⟨#[99]⟩, Value.string ⟨#[120]⟩] 39)).cell? ⟨w3.heap.size, 0, none⟩ = some (.string ⟨#[99]⟩) := by go_simp
  have c1 : (w3.alloc (Obj.cells #[Value.string ⟨#[99]⟩, Value.string ⟨#[120]⟩] 39)).cell? ⟨w3.heap.size, 1, none⟩ = some (.string ⟨#[120]⟩) := by go_simp
  refine (hA.out _ hb4).mono ?_
  rintro e w5 ⟨rfl, hb5⟩
  have d0 := (hb5.cell (p := ⟨w3.heap.size, 0, none⟩) (cell_lt c0)).trans c0
  have d1 := (hb5.cell (p := ⟨w3.heap.size, 1, none⟩) (cell_lt c1)).trans c1
  have hb5H := Lib.hid (hb4.trans (hb5.mono hb4.size))
  clear hb5 hb4 c0 c1
  go_wp2_with fail
  have hTR5 := Lib.hid (hTR3.out.below hb5H.out)
  have hS := tsize_at hTR5.out
  rw [hlen.out] at hS
  have hSH := Lib.hid hS
  have hR := Lib.hid (fun W (hb : Below w5.heap.size w5 W) => by have := trank_at (hTR5.out.below hb) ⟨#[98, 98]⟩; rw [awakeL_rank.2] at this; exact this)
  have hC := Lib.hid (fun W (hb : Below w5.heap.size w5 W) => tcheck_at (hTR5.out.below hb))
  clear hS hA
  refine hSH.out.mono ?_
  rintro e w6 ⟨rfl, hb6⟩
  have e0 := (hb6.cell (p := ⟨w3.heap.size, 0, none⟩) (cell_lt d0)).trans d0
  have e1 := (hb6.cell (p := ⟨w3.heap.size, 1, none⟩) (cell_lt d1)).trans d1
  have hb6H := Lib.hid hb6
  clear hb6 d0 d1 hSH
  go_wp2_with fail
  refine (hR.out _ hb6H.out).mono ?_
  rintro e w7 ⟨rfl, hb7⟩
  have hb7H := Lib.hid (hb6H.out.trans (hb7.mono hb6H.out.size))
  clear hb7 e0 e1
  go_wp2_with fail
  refine (hC.out _ hb7H.out).mono ?_
  rintro e w8 ⟨rfl, hb8⟩
  have hb8H := Lib.hid (hb7H.out.trans (hb8.mono hb7H.out.size))
  clear hb8
  go_wp2
  go_ret
  exact ⟨rfl, hb3H.out.trans ((hb5H.out.trans (hb8H.out.mono hb5H.out.size)).mono hb3H.out.size)⟩
end Go.Proofs.YtdcglpagdnhkgaaGreatDoor
/- What a law's row gives of the listed table; slices of pairs and of ints that come in. -/
set_option linter.unusedVariables false
set_option linter.unusedSimpArgs false
namespace Go.Proofs.YtdcglpagdnhkgaaGreatDoor
open Go.ChangeShapes Go.WideShapes Go.ChangeAt Go.WideMaps Go.WideElems Go.RowKit Go.Deep
theorem own : ownKnob Tryz.prog.godebug = none := by kernel_rfl
theorem laidOut : laidOutB Tryz.prog = true := by kernel_rfl
theorem gTab : Tryz.prog.globalNamed "math/bits.deBruijn64tab" = some 1 := by kernel_rfl
theorem tTab : (Tryz.prog.globals[1]?).map (·.type) = some 201 := by kernel_rfl
abbrev laidL : List (String × DataW Unit) := [("math/bits.deBruijn64tab", Rows.laid_math_bits_deBruijn64tab)]
theorem laid_list : (Rows.laid_math_bits_deBruijn64tab : DataW Unit) = .agg (Lib.deBruijn64tab.map fun n => .lit (.int .u8 (n : Nat))) := rfl
/-- the door's own heap meets the condition -/
theorem door_met (os : Os) (args : Array Value) : laidMetH Tryz.prog laidL ((World.doorLaid Tryz.prog 400 os).forCall (fun _ _ => 0) ⟨#[], args, []⟩).memory :=
  laidMetH_of_parts3 (fuel := 8) (laidMet_of_run' 8 (by kernel_rfl) (by kernel_rfl)) (by kernel_rfl) (by kernel_rfl)
theorem of_laid {W : World} (h : laidMetH Tryz.prog laidL W) : Tab W := by
  rw [MakeChecks.laidMetH_plain _ _ _ (by kernel_rfl)] at h
  obtain ⟨ps, ⟨g0, t0, cs0, f0, p0, q0, hg0, ht0, hv0, hd0, _⟩, _⟩ := h
  obtain rfl := Option.some.inj (gTab.symm.trans hg0)
  obtain rfl := Option.some.inj (tTab.symm.trans ht0)
  obtain ⟨xs, m1, rfl, hx1, hlen, hn, hel⟩ := DataW.trod_array Tryz.underlying201 hd0
  have c5 : Tryz.prog.cellsOf 5 = 1 := by kernel_rfl
  simp only [Prod.mk.injEq] at hx1
  rw [laid_list] at hx1
  have hmap : xs.map (·.1) = Lib.deBruijn64tab.map fun n => DataW.lit (Lit.int .u8 (n : Nat)) := by
    have := hx1.1
    simp only [DataW.agg.injEq] at this
    exact this.symm
  intro j hj
  have hj64 : j < 64 := hj
  have hjx : j < xs.length := by omega
  have h0 := hel j hj64
  rw [List.getElem?_eq_getElem hjx, c5, Nat.mul_one] at h0
  obtain ⟨k, e1, e2, _⟩ := DataW.trod_int Tryz.underlying5 h0
  have h3 : (xs.map (·.1))[j]? = some (.lit (.int .u8 (Lib.deBruijn64tab.getD j 0 : Nat))) := by
    rw [hmap, List.getElem?_map, List.getElem?_eq_getElem hj]
    simp [List.getD_eq_getElem?_getD, List.getElem?_eq_getElem hj]
  rw [List.getElem?_map, List.getElem?_eq_getElem hjx, e2] at h3
  simp only [Option.map_some, Option.some.injEq, DataW.lit.injEq, Lit.int.injEq, true_and] at h3
  subst h3
  have hc := World.var?_cell hg0 hv0 j
  rw [hc]
  have hd : cs0.toList[j]? = some (.int .u8 (Lib.deBruijn64tab.getD j 0 : Nat)) := by
    have h5 : ((cs0.toList.drop j).take 1)[0]? = some (.int .u8 (Lib.deBruijn64tab.getD j 0 : Nat)) := by rw [e1]; rfl
    rw [List.getElem?_take, if_pos (by omega), List.getElem?_drop, Nat.add_zero] at h5
    exact h5
  simpa using hd
end Go.Proofs.YtdcglpagdnhkgaaGreatDoor
/- loftlaw11.WalkFinds: the walk. -/
set_option linter.unusedVariables false
set_option linter.unusedSimpArgs false
namespace Go.Proofs.YtdcglpagdnhkgaaGreatDoor
open Go.RowKit Go.Shelf
theorem sized_of {l : List Pr} (h : longL l = false) : ∀ p ∈ l, p.1.size ≤ 1000 ∧ p.2.size ≤ 1000 := by
  intro p hp
  unfold longL at h
  rw [List.any_eq_false] at h
  have := h p hp
  simp at this
  exact this
theorem CellsF.prs {w : World} {F : Nat → Prop} {A : Option Addr} {l : List Pr} (h : CellsF w F A (prsV l)) : Prs w w.heap.size A l := by
  rcases h with h | ⟨b, o, h1, h2, h3, h4⟩
  · left
    cases l with
    | nil => rfl
    | cons p l => simp [prsV] at h
  · exact .inr ⟨b, o, h1, h2, h4⟩
def ILaw (w : World) (A : Option Addr) (l : List Pr) : Prop := CellsF w (fun b => w.heap.size ≤ b) A (prsV l) ∧ Sized l ∧ l.length ≤ 9223372036854775807
def IInts (w : World) (A : Option Addr) (zs : List Int) : Prop := CellsF w (fun b => w.heap.size ≤ b) A (intsV zs) ∧ zs.length ≤ 9223372036854775807 ∧ ∀ z ∈ zs, -9223372036854775808 ≤ z ∧ z ≤ 9223372036854775807
abbrev TrueB (w : World) : Ending → World → Prop := fun e w' => e = .returned (.bool true) ∧ Below w.heap.size w w'
set_option maxHeartbeats 1000000 in
set_option maxRecDepth 100000 in
theorem finds_0 {w : World} (hT : Tab w) (l : List Pr) (A A' : Option Addr) (c c' m : Nat) (key : ByteArray) (k : Int) (hl : 60 < l.length) (hl2 : l.length ≤ 9223372036854775807) :
    Calls Tryz.prog 3 #[.slice A l.length c, .slice A' m c', .string key, .int .i64 k] w (TrueB w) := by
  have hA := Lib.hid (awake_at hT)
  have d1 : decide ((60 : Int) < (l.length : Int)) = true := by simp; omega
  clear hT
  unfold TrueB
  go_enter Tryz.func3, Tryz.ntmps3
  go_wp2_with fail
  refine hA.out.mono ?_
  rintro e w1 ⟨rfl, hb1⟩
  have hbH := Lib.hid hb1
  clear hb1
  go_wp2
  go_ret
  exact ⟨rfl, hbH.out⟩
set_option maxHeartbeats 1000000 in
set_option maxRecDepth 100000 in
theorem finds_1 {w : World} (hT : Tab w) (l : List Pr) (A A' : Option Addr) (c c' m : Nat) (key : ByteArray) (k : Int) (h : ILaw w A l) (hl : l.length ≤ 60) (hlong : longL l = true) :
    Calls Tryz.prog 3 #[.slice A l.length c, .slice A' m c', .string key, .int .i64 k] w (TrueB w) := by
  have hA := Lib.hid (awake_at hT)
  have hL := refLong_at (c := c) h.1.prs (by omega) h.2.1
  rw [hlong] at hL
  have hLH := Lib.hid hL
  have d1 : decide ((60 : Int) < (l.length : Int)) = false := by simp; omega
  clear hT h hL hlong
  unfold TrueB
  go_enter Tryz.func3, Tryz.ntmps3
  go_wp2_with fail
  refine hLH.out.mono ?_
  rintro e w0 ⟨rfl, rfl⟩
  go_wp2_with fail
  refine hA.out.mono ?_
  rintro e w1 ⟨rfl, hb1⟩
  have hbH := Lib.hid hb1
  clear hb1
  go_wp2
  go_ret
  exact ⟨rfl, hbH.out⟩
set_option maxHeartbeats 1000000 in
set_option maxRecDepth 100000 in
theorem finds_2 {w : World} (hT : Tab w) (l : List Pr) (A A' : Option Addr) (c c' m : Nat) (key : ByteArray) (k : Int) (h : ILaw w A l) (hl : l.length ≤ 60) (hlong : longL l = false) (hk : 2000 < key.size) (hk2 : key.size ≤ 9223372036854775807) :
    Calls Tryz.prog 3 #[.slice A l.length c, .slice A' m c', .string key, .int .i64 k] w (TrueB w) := by
  have hA := Lib.hid (awake_at hT)
  have hL := refLong_at (c := c) h.1.prs (by omega) h.2.1
  rw [hlong] at hL
  have hLH := Lib.hid hL
  have d1 : decide ((60 : Int) < (l.length : Int)) = false := by simp; omega
  clear hT h hL hlong
  unfold TrueB
  go_enter Tryz.func3, Tryz.ntmps3
  go_wp2_with fail
  refine hLH.out.mono ?_
  rintro e w0 ⟨rfl, rfl⟩
  go_wp2_with fail
  refine hA.out.mono ?_
  rintro e w1 ⟨rfl, hb1⟩
  have hbH := Lib.hid hb1
  clear hb1
  go_wp2
  go_ret
  exact ⟨rfl, hbH.out⟩
set_option maxHeartbeats 4000000 in
set_option maxRecDepth 100000 in
theorem finds_main {w : World} (hT : Tab w) (l : List Pr) (A A' : Option Addr) (c c' : Nat) (zs : List Int) (key : ByteArray) (k : Int) (h : ILaw w A l) (hz : IInts w A' zs) (hl : l.length ≤ 60) (hlong : longL l = false) (hk : key.size ≤ 2000) (hkb : -9223372036854775808 ≤ k ∧ k ≤ 9223372036854775807) :
    Calls Tryz.prog 3 #[.slice A l.length c, .slice A' zs.length c', .string key, .int .i64 k] w (TrueB w) := by
  have hL := refLong_at (c := c) h.1.prs (by omega) h.2.1
  rw [hlong] at hL
  have hLH := Lib.hid hL
  have d1 : decide ((60 : Int) < (l.length : Int)) = false := by simp; omega
  have hM := Lib.hid (made_at (c := c) hT h.1 (by omega) (sized_of hlong) (c' := c') hz.2.1 hz.2.2 hz.1)
  have hTH := Lib.hid hT
  have hsl := sortedL_len l
  have hszd := Lib.hid h.2.1.sorted
  clear hT h hL hlong hz
  unfold TrueB
  go_enter Tryz.func3, Tryz.ntmps3
  go_wp2_with fail
  refine hLH.out.mono ?_
  rintro e w0 ⟨rfl, rfl⟩
  go_wp2_with fail
  refine hM.out.mono ?_
  rintro e w1 ⟨s, t, F, R, H, B, cB, rfl, hmo⟩
  obtain ⟨n, hTR, _⟩ := hmo.tree rfl
  generalize sortedL l = m at *
  have hTR1 := Lib.hid hTR
  have hrow := Lib.hid hmo.row
  have hb1 := Lib.hid hmo.bel
  have hT1 := Lib.hid (hTH.out.below hmo.bel (tab_lt hTH.out))
  have hC := Lib.hid (fun W (hb : Below w1.heap.size w1 W) => tcheck_at (hTR1.out.below hb))
  have hS := Lib.hid (fun W (hb : Below w1.heap.size w1 W) => tsize_at (hTR1.out.below hb))
  have hRk := Lib.hid (fun W (hb : Below w1.heap.size w1 W) => trank_at (hTR1.out.below hb) key)
  have hAw := Lib.hid (fun W (hb : Below w1.heap.size w1 W) => awake_at (hT1.out.below hb (tab_lt hT1.out)))
  have hrr := Lib.hid (fun W (hb : Below w1.heap.size w1 W) => refRank_at (c := cB) (hrow.out.prs.below hb) hb.size (by omega) hszd.out key (by omega))
  have hrf := Lib.hid (fun W (hb : Below w1.heap.size w1 W) => refFind_at (c := cB) (hrow.out.prs.below hb) hb.size (by omega) hszd.out key (by omega))
  clear hmo hTR hLH hM
  go_wp2_with fail
  refine (hC.out _ (Below.refl _ _)).mono ?_
  rintro e w2 ⟨rfl, hb2⟩
  have hb2H := Lib.hid hb2
  clear hb2
  go_wp2_with fail
  refine (hS.out _ hb2H.out).mono ?_
  rintro e w3 ⟨rfl, hb3⟩
  have hb3H := Lib.hid (hb2H.out.trans (hb3.mono hb2H.out.size))
  clear hb3
  go_wp2_with fail
  by_cases hh : hasK m key
  · obtain ⟨hl1, hF⟩ := tfind_yes (hTR1.out.below hb3H.out) hh
    obtain ⟨hl2, hkey⟩ := hasK_lt hh
    have hfl : findL m key = (rankL m key : Nat) := by rw [findL_lt hl2, if_pos hkey]
    have hP := fun W (hb : Below w1.heap.size w1 W) => tpair_at (hTR1.out.below hb) hl2 hl1
    have hnz := hTR1.out.node_nz (List.getElem_mem hl1)
    have hq := fun W (hb : Below w1.heap.size w1 W) => (hrow.out.turn (Turn.below hb)).pairs hl2
    obtain ⟨x, hx⟩ : ∃ x, t.nodes[rankL m key] = x := ⟨_, rfl⟩
    obtain ⟨p, hp⟩ : ∃ p, m[rankL m key] = p := ⟨_, rfl⟩
    simp only [hx, hp] at hF hP hnz
    simp only [hp] at hq
    rw [hfl] at hrf
    have dx : ((x : Int) == 0) = false := by simp; omega
    have hPH := Lib.hid hP
    have hqH := Lib.hid hq
    have hFH := Lib.hid hF
    clear hx hp hfl hF hP hq hkey hnz
    generalize rankL m key = r at *
    refine hFH.out.mono ?_
    rintro e w4 ⟨rfl, hb4⟩
    have hb4H := Lib.hid (hb3H.out.trans (hb4.mono hb3H.out.size))
    clear hb4
    go_wp2_with fail
    refine (hrf.out _ hb4H.out).mono ?_
    rintro e w5 ⟨rfl, hb5⟩
    have hb5H := Lib.hid (hb4H.out.trans (hb5.mono hb4H.out.size))
    clear hb5
    go_wp2_with fail
    refine (hRk.out _ hb5H.out).mono ?_
    rintro e w6 ⟨rfl, hb6⟩
    have hb6H := Lib.hid (hb5H.out.trans (hb6.mono hb5H.out.size))
    clear hb6
    go_wp2_with fail
    refine (hrr.out _ hb6H.out).mono ?_
    rintro e w7 ⟨rfl, hb7⟩
    have hb7H := Lib.hid (hb6H.out.trans (hb7.mono hb6H.out.size))
    clear hb7
    go_wp2_with fail
    refine (hPH.out _ hb7H.out).mono ?_
    rintro e w8 ⟨rfl, hb8⟩
    have hb8H := Lib.hid (hb7H.out.trans (hb8.mono hb7H.out.size))
    have hz8 := hb8H.out.size
    have hb9' := hb8H.out.alloc hz8 (Obj.cells #[Value.string p.1, Value.string p.2] 39)
    obtain ⟨b, o, hBs, q1, q2⟩ := hqH.out _ hb9'
    subst hBs
    have q3 : (w8.alloc (Obj.cells #[Value.string p.1, Value.string p.2] 39)).cell? ⟨w8.heap.size, 0, none⟩ = some (.string p.1) := by go_simp
    have q4 : (w8.alloc (Obj.cells #[Value.string p.1, Value.string p.2] 39)).cell? ⟨w8.heap.size, 1, none⟩ = some (.string p.2) := by go_simp
    have hb9a := Lib.hid hb9'
    clear hb8 hb9'
    go_wp2
    go_quiet (fail)
    go_wp2_with fail
    have hb9H := Lib.hid (hb9a.out.trans ((Tx.drewN_below _ nq).mono hb9a.out.size))
    clear q1 q2 q3 q4

    by_cases hkk : 0 ≤ k ∧ k < m.length
    · obtain ⟨kn, rfl⟩ := Int.eq_ofNat_of_zero_le hkk.1
      have hkn : kn < m.length := by omega
      have hkn2 : kn < t.nodes.length := by rw [hTR1.out.nodes_len]; exact hkn
      have hAt := tat_in (hTR1.out.below hb9H.out) (i := (kn : Int)) (by omega) (by omega) hkn2
      have hP2 := fun W (hb : Below w1.heap.size w1 W) => tpair_at (hTR1.out.below hb) hkn hkn2
      have hq2 := fun W (hb : Below w1.heap.size w1 W) => (hrow.out.turn (Turn.below hb)).pairs hkn
      obtain ⟨x2, hx2⟩ : ∃ x2, t.nodes[kn] = x2 := ⟨_, rfl⟩
      obtain ⟨p2, hp2⟩ : ∃ p2, m[kn] = p2 := ⟨_, rfl⟩
      simp only [Int.toNat_natCast] at hAt
      rw [hx2] at hAt
      simp only [hx2, hp2] at hP2
      simp only [hp2] at hq2
      have hAtH := Lib.hid hAt
      have hP2H := Lib.hid hP2
      have hq2H := Lib.hid hq2
      have dk1 : decide ((kn : Int) < 0) = false := by simp
      have dk2 : decide (m.length ≤ kn) = false := by simp; omega
      have dk3 : decide ((m.length : Int) ≤ (kn : Int)) = false := by simp; omega
      clear hAt hP2 hq2 hx2 hp2
      refine hAtH.out.mono ?_
      rintro e w10 ⟨rfl, hb10⟩
      have hb10H := Lib.hid (hb9H.out.trans (hb10.mono hb9H.out.size))
      clear hb10
      go_wp2_with fail
      refine (hP2H.out _ hb10H.out).mono ?_
      rintro e w11 ⟨rfl, hb11⟩
      have hb11H := Lib.hid (hb10H.out.trans (hb11.mono hb10H.out.size))
      have hz11 := hb11H.out.size
      have hb12H := Lib.hid (hb11H.out.alloc hz11 (Obj.cells #[Value.string p2.1, Value.string p2.2] 39))
      obtain ⟨bb, oo, hBs, r1, r2⟩ := hq2H.out _ hb12H.out
      try cases hBs
      try subst hBs
      have r3 : (w11.alloc (Obj.cells #[Value.string p2.1, Value.string p2.2] 39)).cell? ⟨w11.heap.size, 0, none⟩ = some (.string p2.1) := by go_simp
      have r4 : (w11.alloc (Obj.cells #[Value.string p2.1, Value.string p2.2] 39)).cell? ⟨w11.heap.size, 1, none⟩ = some (.string p2.2) := by go_simp
      clear hb11
      go_wp2
      refine wp_region_quiet_tail 15 (by kernel_rfl) (by kernel_rfl) ?_
      simp only [List.take_succ_cons, List.take_zero, List.drop_succ_cons, List.drop_zero]
      repeat (go_big_quiet_step (fail))
      refine wpQuiet_nil ?_
      rintro _ ⟨nq, rfl⟩
      go_wp2_with fail
      have hb13H := Lib.hid (hb12H.out.trans ((Tx.drewN_below _ nq).mono hb12H.out.size))
      refine (hAw.out _ hb13H.out).mono ?_
      rintro e w14 ⟨rfl, hb14⟩
      have hb14H := Lib.hid (hb1.out.trans ((hb13H.out.trans (hb14.mono hb13H.out.size)).mono hb1.out.size))
      clear hb14
      go_wp2
      go_ret
      exact ⟨rfl, hb14H.out⟩
    · have hAt := Lib.hid (tat_out (hTR1.out.below hb9H.out) hkk)
      have hkc : (decide (k < 0) = true) ∨ (decide (k < 0) = false ∧ decide ((m.length : Int) ≤ k) = true) := by
        by_cases h0 : k < 0
        · exact .inl (decide_eq_true h0)
        · exact .inr ⟨decide_eq_false h0, decide_eq_true (by omega)⟩
      clear hkk
      rcases hkc with dk1 | ⟨dk1, dk2⟩
      all_goals
        refine hAt.out.mono ?_
        rintro e w10 ⟨rfl, hb10⟩
        have hb10H := Lib.hid (hb9H.out.trans (hb10.mono hb9H.out.size))
        clear hb10
        go_wp2_with fail
        refine (hAw.out _ hb10H.out).mono ?_
        rintro e w14 ⟨rfl, hb14⟩
        have hb14H := Lib.hid (hb1.out.trans ((hb10H.out.trans (hb14.mono hb10H.out.size)).mono hb1.out.size))
        clear hb14
        go_wp2
        go_ret
        exact ⟨rfl, hb14H.out⟩
  · have hF := Lib.hid (tfind_no (hTR1.out.below hb3H.out) hh)
    have hfl : findL m key = -1 := if_neg hh
    rw [hfl] at hrf
    clear hfl hh
    generalize rankL m key = r at *
    refine hF.out.mono ?_
    rintro e w4 ⟨rfl, hb4⟩
    have hb4H := Lib.hid (hb3H.out.trans (hb4.mono hb3H.out.size))
    clear hb4
    go_wp2_with fail
    refine (hrf.out _ hb4H.out).mono ?_
    rintro e w5 ⟨rfl, hb5⟩
    have hb5H := Lib.hid (hb4H.out.trans (hb5.mono hb4H.out.size))
    clear hb5
    go_wp2_with fail
    refine (hRk.out _ hb5H.out).mono ?_
    rintro e w6 ⟨rfl, hb6⟩
    have hb6H := Lib.hid (hb5H.out.trans (hb6.mono hb5H.out.size))
    clear hb6
    go_wp2_with fail
    refine (hrr.out _ hb6H.out).mono ?_
    rintro e w7 ⟨rfl, hb7⟩
    have hb9H := Lib.hid (hb6H.out.trans (hb7.mono hb6H.out.size))
    clear hb7
    go_wp2_with fail

    by_cases hkk : 0 ≤ k ∧ k < m.length
    · obtain ⟨kn, rfl⟩ := Int.eq_ofNat_of_zero_le hkk.1
      have hkn : kn < m.length := by omega
      have hkn2 : kn < t.nodes.length := by rw [hTR1.out.nodes_len]; exact hkn
      have hAt := tat_in (hTR1.out.below hb9H.out) (i := (kn : Int)) (by omega) (by omega) hkn2
      have hP2 := fun W (hb : Below w1.heap.size w1 W) => tpair_at (hTR1.out.below hb) hkn hkn2
      have hq2 := fun W (hb : Below w1.heap.size w1 W) => (hrow.out.turn (Turn.below hb)).pairs hkn
      obtain ⟨x2, hx2⟩ : ∃ x2, t.nodes[kn] = x2 := ⟨_, rfl⟩
      obtain ⟨p2, hp2⟩ : ∃ p2, m[kn] = p2 := ⟨_, rfl⟩
      simp only [Int.toNat_natCast] at hAt
      rw [hx2] at hAt
      simp only [hx2, hp2] at hP2
      simp only [hp2] at hq2
      have hAtH := Lib.hid hAt
      have hP2H := Lib.hid hP2
      have hq2H := Lib.hid hq2
      have dk1 : decide ((kn : Int) < 0) = false := by simp
      have dk2 : decide (m.length ≤ kn) = false := by simp; omega
      have dk3 : decide ((m.length : Int) ≤ (kn : Int)) = false := by simp; omega
      clear hAt hP2 hq2 hx2 hp2
      refine hAtH.out.mono ?_
      rintro e w10 ⟨rfl, hb10⟩
      have hb10H := Lib.hid (hb9H.out.trans (hb10.mono hb9H.out.size))
      clear hb10
      go_wp2_with fail
      refine (hP2H.out _ hb10H.out).mono ?_
      rintro e w11 ⟨rfl, hb11⟩
      have hb11H := Lib.hid (hb10H.out.trans (hb11.mono hb10H.out.size))
      have hz11 := hb11H.out.size
      have hb12H := Lib.hid (hb11H.out.alloc hz11 (Obj.cells #[Value.string p2.1, Value.string p2.2] 39))
      obtain ⟨bb, oo, hBs, r1, r2⟩ := hq2H.out _ hb12H.out
      try cases hBs
      try subst hBs
      have r3 : (w11.alloc (Obj.cells #[Value.string p2.1, Value.string p2.2] 39)).cell? ⟨w11.heap.size, 0, none⟩ = some (.string p2.1) := by go_simp
      have r4 : (w11.alloc (Obj.cells #[Value.string p2.1, Value.string p2.2] 39)).cell? ⟨w11.heap.size, 1, none⟩ = some (.string p2.2) := by go_simp
      clear hb11
      go_wp2
      refine wp_region_quiet_tail 15 (by kernel_rfl) (by kernel_rfl) ?_
      simp only [List.take_succ_cons, List.take_zero, List.drop_succ_cons, List.drop_zero]
      repeat (go_big_quiet_step (fail))
      refine wpQuiet_nil ?_
      rintro _ ⟨nq, rfl⟩
      go_wp2_with fail
      have hb13H := Lib.hid (hb12H.out.trans ((Tx.drewN_below _ nq).mono hb12H.out.size))
      refine (hAw.out _ hb13H.out).mono ?_
      rintro e w14 ⟨rfl, hb14⟩
      have hb14H := Lib.hid (hb1.out.trans ((hb13H.out.trans (hb14.mono hb13H.out.size)).mono hb1.out.size))
      clear hb14
      go_wp2
      go_ret
      exact ⟨rfl, hb14H.out⟩
    · have hAt := Lib.hid (tat_out (hTR1.out.below hb9H.out) hkk)
      have hkc : (decide (k < 0) = true) ∨ (decide (k < 0) = false ∧ decide ((m.length : Int) ≤ k) = true) := by
        by_cases h0 : k < 0
        · exact .inl (decide_eq_true h0)
        · exact .inr ⟨decide_eq_false h0, decide_eq_true (by omega)⟩
      clear hkk
      rcases hkc with dk1 | ⟨dk1, dk2⟩
      all_goals
        refine hAt.out.mono ?_
        rintro e w10 ⟨rfl, hb10⟩
        have hb10H := Lib.hid (hb9H.out.trans (hb10.mono hb9H.out.size))
        clear hb10
        go_wp2_with fail
        refine (hAw.out _ hb10H.out).mono ?_
        rintro e w14 ⟨rfl, hb14⟩
        have hb14H := Lib.hid (hb1.out.trans ((hb10H.out.trans (hb14.mono hb10H.out.size)).mono hb1.out.size))
        clear hb14
        go_wp2
        go_ret
        exact ⟨rfl, hb14H.out⟩
end Go.Proofs.YtdcglpagdnhkgaaGreatDoor
/- Slices of pairs, of ints, as a law's row opens them. -/
set_option linter.unusedVariables false
set_option linter.unusedSimpArgs false
namespace Go.Proofs.YtdcglpagdnhkgaaGreatDoor
open Go.ChangeShapes Go.WideShapes Go.ChangeAt Go.WideMaps Go.WideElems Go.RowKit Go.Deep
theorem int_bound {n : Int} (h : (Lit.int .i64 n).wf = true) : -9223372036854775808 ≤ n ∧ n ≤ 9223372036854775807 := by
  simpa [Lit.wf, IntKind.min, IntKind.max, IntKind.signed, IntKind.bits] using h
theorem prsV_inv : ∀ {l : List Pr} {j : Nat} {u : Value}, (prsV l)[j]? = some u → ∃ (i : Nat) (hi : i < l.length), (j = i * 2 ∧ u = .string l[i].1) ∨ (j = i * 2 + 1 ∧ u = .string l[i].2)
  | [], j, u, h => by simp [prsV] at h
  | p :: l, 0, u, h => by simp [prsV] at h; exact ⟨0, by simp, .inl ⟨rfl, h.symm⟩⟩
  | p :: l, 1, u, h => by simp [prsV] at h; exact ⟨0, by simp, .inr ⟨rfl, h.symm⟩⟩
  | p :: l, j + 2, u, h => by
    obtain ⟨i, hi, hh⟩ := prsV_inv (l := l) (j := j) (u := u) (by simpa [prsV] using h)
    refine ⟨i + 1, by simpa using hi, ?_⟩
    rcases hh with ⟨h1, h2⟩ | ⟨h1, h2⟩
    · exact .inl ⟨by omega, h2⟩
    · exact .inr ⟨by omega, h2⟩
theorem addr_add (b o j : Nat) : (⟨b, o, none⟩ : Addr).add j = ⟨b, o + j, none⟩ := by unfold Addr.add; split <;> simp_all
section
variable {H : Type} {enc : TypeId × Value → H} {w : World} {base : Nat} {held : Bool}
theorem open_prs {fuel : Nat} {cs : List Value} {x : DataW H × List MemPlace} (h : DataW.trod enc Tryz.prog w base (fun _ => true) held fuel 22 cs = some x) : ∃ A len cap l, cs = [.slice A len cap] ∧ len = l.length ∧ ILaw w A l := by
  rcases open_slice_pairs Tryz.underlying22 Tryz.underlying39 (by kernel_rfl) rfl rfl (by kernel_rfl) (by kernel_rfl) h with ⟨hcs, _⟩ | ⟨a, len, cap, m, n, V0, V1, D0, D1, P0, P1, hcs, hb, hl, hm, hmm, _, hx⟩
  · exact ⟨none, 0, 0, [], hcs, rfl, .inl rfl, fun p hp => by simp at hp, by simp⟩
  · have hmc : m = cap := by simpa using hmm
    subst hmc
    have hS : ∀ i, ∃ p : Pr, i < m → V0 i = .string p.1 ∧ V1 i = .string p.2 ∧ p.1.size ≤ maxLen ∧ p.2.size ≤ maxLen := fun i => by
      by_cases hi : i < m
      · obtain ⟨h1, h2, h3, h4⟩ := hx i hi
        obtain ⟨s0, e0, _, z0⟩ := DataW.trod_string Tryz.underlying9 h3
        obtain ⟨s1, e1, _, z1⟩ := DataW.trod_string Tryz.underlying9 h4
        exact ⟨(s0, s1), fun _ => ⟨by simpa using e0, by simpa using e1, z0, z1⟩⟩
      · exact ⟨(⟨#[]⟩, ⟨#[]⟩), fun hh => absurd hh hi⟩
    obtain ⟨f, hf⟩ := Classical.axiomOfChoice hS
    have hll : ((List.range len).map f).length = len := by simp
    unfold maxLen at hm
    refine ⟨some a, len, m, (List.range len).map f, hcs, hll.symm, ?_, ?_, by rw [hll]; omega⟩
    · by_cases h0 : len = 0
      · subst h0; exact .inl rfl
      · obtain ⟨b, off, spot⟩ := a
        have hc0 := (hx 0 (by omega)).1
        have hspot : spot = none := by simpa [Addr.add] using World.cell?_spot hc0
        subst hspot
        have hbl := World.block_lt_of_cell? _ _ hc0
        rw [addr_add] at hbl
        refine .inr ⟨b, off, rfl, hbl, by show ¬ w.heap.size ≤ b; simp only at hbl; omega, fun j u hu => ?_⟩
        obtain ⟨i, hi, hh⟩ := prsV_inv hu
        have hil : i < len := by omega
        obtain ⟨c0, c1, _, _⟩ := hx i (by omega)
        obtain ⟨g0, g1, _, _⟩ := hf i (by omega)
        rw [addr_add] at c0 c1
        have hget : ((List.range len).map f)[i] = f i := by simp
        rcases hh with ⟨rfl, rfl⟩ | ⟨rfl, rfl⟩
        · rw [c0, g0, hget]
        · rw [c1, g1, hget]
    · intro p hp
      obtain ⟨i, hi, rfl⟩ := List.mem_map.1 hp
      have hil : i < len := by simpa using hi
      obtain ⟨_, _, z0, z1⟩ := hf i (by omega)
      unfold maxLen at z0 z1
      exact ⟨z0, z1⟩
theorem open_zs {fuel : Nat} {cs : List Value} {x : DataW H × List MemPlace} (h : DataW.trod enc Tryz.prog w base (fun _ => true) held fuel 23 cs = some x) : ∃ A len cap zs, cs = [.slice A len cap] ∧ len = zs.length ∧ IInts w A zs := by
  rcases open_ints Tryz.underlying23 Tryz.underlying3 (by kernel_rfl) h with ⟨hcs, _⟩ | ⟨a, len, cap, zs, hcs, hb, hl, hm, hz, _, hc, hwf⟩
  · exact ⟨none, 0, 0, [], hcs, rfl, .inl rfl, by simp, fun z hz => by simp at hz⟩
  · have hzc : zs.length = cap := by simpa using hz
    unfold maxLen at hm
    have hll : (zs.take len).length = len := by simp; omega
    refine ⟨some a, len, cap, zs.take len, hcs, hll.symm, ?_, by rw [hll]; omega, fun z hz => int_bound (hwf z (List.mem_of_mem_take hz))⟩
    by_cases h0 : len = 0
    · subst h0; exact .inl rfl
    · obtain ⟨b, off, spot⟩ := a
      have hc0 := hc 0 (by omega)
      have hspot : spot = none := by simpa [Addr.add] using World.cell?_spot hc0
      subst hspot
      have hbl := World.block_lt_of_cell? _ _ hc0
      rw [addr_add] at hbl
      refine .inr ⟨b, off, rfl, hbl, by show ¬ w.heap.size ≤ b; simp only at hbl; omega, fun j u hu => ?_⟩
      rw [intsV, List.getElem?_map] at hu
      by_cases hj : j < (zs.take len).length
      · have hj2 : j < zs.length := by omega
        have h1 := hc j hj2
        rw [addr_add] at h1
        rw [h1]
        rw [List.getElem?_eq_getElem hj, Option.map_some, Option.some.injEq] at hu
        rw [← hu, List.getElem_take]
        simp [List.getD_eq_getElem?_getD, List.getElem?_eq_getElem hj2]
      · rw [List.getElem?_eq_none (by omega)] at hu
        cases hu
end
end Go.Proofs.YtdcglpagdnhkgaaGreatDoor

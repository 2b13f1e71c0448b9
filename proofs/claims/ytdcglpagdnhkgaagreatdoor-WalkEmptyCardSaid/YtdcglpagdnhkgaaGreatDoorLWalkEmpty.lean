/-
  The seat's own texts, what WalkEmpty wants besides: Two, Empty.
-/
import Derived.Test.YtdcglpagdnhkgaaGreatDoorMi
/- Two trees in one store. -/
set_option linter.unusedVariables false
set_option linter.unusedSimpArgs false
namespace Go.Proofs.YtdcglpagdnhkgaaGreatDoor
open Go.RowKit Go.Shelf
section
variable {w w' : World} {s N : Nat} {F : Nat → Prop} {R R' : Nat → Option (List Nat)} {H : List Nat} {P q most last G n : Nat}
theorem treeNil (rd : Rd N w s R n) (sh : Short R) (z : R 0 = none) : TreeR N w s R n .nil [] :=
  ⟨rd, sh, z, trivial, rfl, List.Pairwise.nil, List.nodup_nil, Nat.zero_le _⟩
theorem treeIn (h : StoreIs w s F R H P q most last G) (sh : Short R) (z : R 0 = none) {t : BT} (ht : t.At R) {l : List Pr} (hp : t.prs = l) (hr : Rising l) (hn : t.hs.Nodup) : ∃ n, TreeR w.heap.size w s R n t l ∧ WordsR R H P n := by
  obtain ⟨n, hrd, hwd⟩ := h.rd
  exact ⟨n, ⟨hrd, sh, z, ht, hp, hr, hn, BT.size_words ht hn h.dom hwd⟩, hwd⟩
theorem GrowOut.other {t t' : BT} (g : GrowOut R R' t) (h : t'.At R) : t'.At R' := h.congr fun x hx => g.keep (BT.hs_in t' h x hx)
theorem GrowOut.apart {t t' : BT} (g : GrowOut R R' t) (h : t'.At R) : ∀ x ∈ t'.hs, x ∉ t.hs := fun x hx hm => BT.hs_in t' h x hx (g.fresh x hm)
theorem dropR_at {t t' : BT} (h : t'.At R) (ha : ∀ x ∈ t'.hs, x ∉ t.hs) : t'.At (dropR R t.hs) := h.congr fun x hx => dropR_out (ha x hx)
theorem dropR_zero {l : List Nat} (h : R 0 = none) : dropR R l 0 = none := by
  unfold dropR
  split
  · rfl
  · exact h
/-- a root that is dropped is no node -/
theorem check_gone (n x : Nat) (h0 : x ≠ 0) (hx : R x = none) : checkR R n x = 8 := by
  unfold checkR
  have : nodeE R x = 7 := by unfold nodeE; rw [hx]
  rw [if_neg h0, if_pos (by rw [this]; decide)]
theorem BT.root_in {t : BT} (h : t.root ≠ 0) : t.root ∈ t.hs := by
  cases t with
  | nil => exact absurd rfl h
  | node x kh vh m k v l r => simp [BT.root, BT.hs]
end
end Go.Proofs.YtdcglpagdnhkgaaGreatDoor
/- loftlaw11.WalkEmpty: the walk. -/
set_option linter.unusedVariables false
set_option linter.unusedSimpArgs false
namespace Go.Proofs.YtdcglpagdnhkgaaGreatDoor
open Go.RowKit Go.Shelf
set_option maxHeartbeats 1000000 in
set_option maxRecDepth 100000 in
theorem empty_0 {w : World} (hT : Tab w) (l m : List Pr) (A A' : Option Addr) (c c' : Nat) (key : ByteArray) (h : ILaw w A l) (h' : ILaw w A' m) (hk : key.size ≤ 9223372036854775807)
    (hg : 40 < l.length ∨ (l.length ≤ 40 ∧ 40 < m.length) ∨ (l.length ≤ 40 ∧ m.length ≤ 40 ∧ longL l = true) ∨ (l.length ≤ 40 ∧ m.length ≤ 40 ∧ longL l = false ∧ longL m = true) ∨ (l.length ≤ 40 ∧ m.length ≤ 40 ∧ longL l = false ∧ longL m = false ∧ 1000 < key.size)) :
    Calls Tryz.prog 8 #[.slice A l.length c, .slice A' m.length c', .string key] w (TrueB w) := by
  have hA := Lib.hid (awake_at hT)
  have hL := Lib.hid (refLong_at (c := c) h.1.prs h.2.2 h.2.1)
  have hL' := Lib.hid (refLong_at (c := c') h'.1.prs h'.2.2 h'.2.1)
  have z1 := h.2.2
  have z2 := h'.2.2
  clear hT h h'
  unfold TrueB
  rcases hg with hg | ⟨g1, g2⟩ | ⟨g1, g2, g3⟩ | ⟨g1, g2, g3, g4⟩ | ⟨g1, g2, g3, g4, g5⟩
  · have d1 : decide ((40 : Int) < (l.length : Int)) = true := by simp; omega
    go_enter Tryz.func8, Tryz.ntmps8
    go_wp2_with fail
    refine hA.out.mono ?_
    rintro e w1 ⟨rfl, hb1⟩
    have hbH := Lib.hid hb1
    clear hb1
    go_wp2
    go_ret
    exact ⟨rfl, hbH.out⟩
  · have d1 : decide ((40 : Int) < (l.length : Int)) = false := by simp; omega
    have d2 : decide ((40 : Int) < (m.length : Int)) = true := by simp; omega
    go_enter Tryz.func8, Tryz.ntmps8
    go_wp2_with fail
    refine hA.out.mono ?_
    rintro e w1 ⟨rfl, hb1⟩
    have hbH := Lib.hid hb1
    clear hb1
    go_wp2
    go_ret
    exact ⟨rfl, hbH.out⟩
  · have d1 : decide ((40 : Int) < (l.length : Int)) = false := by simp; omega
    have d2 : decide ((40 : Int) < (m.length : Int)) = false := by simp; omega
    have hLa := Lib.hid (by have := hL.out; rw [g3] at this; exact this)
    clear hL g3
    go_enter Tryz.func8, Tryz.ntmps8
    go_wp2_with fail
    refine hLa.out.mono ?_
    rintro e w0 ⟨rfl, rfl⟩
    go_wp2_with fail
    refine hA.out.mono ?_
    rintro e w1 ⟨rfl, hb1⟩
    have hbH := Lib.hid hb1
    clear hb1
    go_wp2
    go_ret
    exact ⟨rfl, hbH.out⟩
  · have d1 : decide ((40 : Int) < (l.length : Int)) = false := by simp; omega
    have d2 : decide ((40 : Int) < (m.length : Int)) = false := by simp; omega
    have hLa := Lib.hid (by have := hL.out; rw [g3] at this; exact this)
    have hLb := Lib.hid (by have := hL'.out; rw [g4] at this; exact this)
    clear hL hL' g3 g4
    go_enter Tryz.func8, Tryz.ntmps8
    go_wp2_with fail
    refine hLa.out.mono ?_
    rintro e w0 ⟨rfl, rfl⟩
    go_wp2_with fail
    refine hLb.out.mono ?_
    rintro e w0 ⟨rfl, rfl⟩
    go_wp2_with fail
    refine hA.out.mono ?_
    rintro e w1 ⟨rfl, hb1⟩
    have hbH := Lib.hid hb1
    clear hb1
    go_wp2
    go_ret
    exact ⟨rfl, hbH.out⟩
  · have d1 : decide ((40 : Int) < (l.length : Int)) = false := by simp; omega
    have d2 : decide ((40 : Int) < (m.length : Int)) = false := by simp; omega
    have hLa := Lib.hid (by have := hL.out; rw [g3] at this; exact this)
    have hLb := Lib.hid (by have := hL'.out; rw [g4] at this; exact this)
    clear hL hL' g3 g4
    go_enter Tryz.func8, Tryz.ntmps8
    go_wp2_with fail
    refine hLa.out.mono ?_
    rintro e w0 ⟨rfl, rfl⟩
    go_wp2_with fail
    refine hLb.out.mono ?_
    rintro e w0 ⟨rfl, rfl⟩
    go_wp2_with fail
    refine hA.out.mono ?_
    rintro e w1 ⟨rfl, hb1⟩
    have hbH := Lib.hid hb1
    clear hb1
    go_wp2
    go_ret
    exact ⟨rfl, hbH.out⟩
set_option maxHeartbeats 4000000 in
set_option maxRecDepth 100000 in
theorem empty_main {w : World} (hT : Tab w) (l m : List Pr) (A A' : Option Addr) (c c' : Nat) (key : ByteArray) (h : ILaw w A l) (h' : ILaw w A' m) (hk : key.size ≤ 1000) (g1 : l.length ≤ 40) (g2 : m.length ≤ 40) (g3 : longL l = false) (g4 : longL m = false) :
    Calls Tryz.prog 8 #[.slice A l.length c, .slice A' m.length c', .string key] w (TrueB w) := by
  have hL := refLong_at (c := c) h.1.prs h.2.2 h.2.1
  have hL' := refLong_at (c := c') h'.1.prs h'.2.2 h'.2.1
  rw [g3] at hL
  rw [g4] at hL'
  have hLH := Lib.hid hL
  have hLH' := Lib.hid hL'
  have d1 : decide ((40 : Int) < (l.length : Int)) = false := by simp; omega
  have d2 : decide ((40 : Int) < (m.length : Int)) = false := by simp; omega
  have hM := Lib.hid (made_at (c := c) (c' := 0) (A' := none) (zs := []) hT h.1 (by omega) (sized_of g3) (by simp) (by simp) (.inl rfl))
  have hTH := Lib.hid hT
  have hsl := sortedL_len l
  have hsm := sortedL_len m
  have hsh := Lib.hid (sized_of g4)
  have hPm := Lib.hid h'.1.prs
  have hszm := Lib.hid h'.2.1
  clear hT h h' hL hL' g3 g4
  unfold TrueB
  go_enter Tryz.func8, Tryz.ntmps8
  go_wp2_with fail
  refine hLH.out.mono ?_
  rintro e w0 ⟨rfl, rfl⟩
  go_wp2_with fail
  refine hLH'.out.mono ?_
  rintro e w0 ⟨rfl, rfl⟩
  go_wp2_with fail
  refine hM.out.mono ?_
  rintro e w1 ⟨s, t, F, R, H, B, cB, rfl, hmo⟩
  have hso := Lib.hid (refSorted_at (c := c') (hPm.out.below hmo.bel) hmo.bel.size (by omega) hszm.out)
  have hmoH := Lib.hid hmo
  have hrl := Lib.hid (sortedL_rising l)
  clear hmo hLH hLH' hM
  go_wp2_with fail
  refine hso.out.mono ?_
  rintro e w2 ⟨v, rfl, hrow, hb2⟩
  obtain ⟨A2, c2, rfl, hA2, hc2, hP2⟩ := own_pairs hrow rfl
  have hcf : CellsF w2 F A2 (prsV (sortedL m)) := by
    rcases hP2 with h | ⟨b, o, h1, h2, h3⟩
    · rw [h]; exact .inl rfl
    · refine .inr ⟨b, o, h1, h2, fun hf => ?_, h3⟩
      have h4 := hmoH.out.st.lt hf
      have h5 := (own2_lt hrow (k := b) (by rw [h1]; rfl)).1
      omega
  have hG := grow_at s none 0 [] (by simp) (by simp) 262144 1000 4294967295 (sortedL m).length w2 F _ _ _ _ A2 c2 (sortedL m) 0 (Nat.le_refl _) (hmoH.out.st.below hb2) hcf (.inl rfl) hc2 (fun p hp => hsh.out p (sortedL_mem hp)) (by omega) (by omega) (by rw [hmoH.out.len]; omega) (by omega)
  have hGH := Lib.hid hG
  have hrm := Lib.hid (sortedL_rising m)
  have hbw2 := Lib.hid (hmoH.out.bel.trans (hb2.mono hmoH.out.bel.size))
  clear hrow hb2 hP2 hG hso hcf hA2
  generalize sortedL l = l1 at *
  generalize sortedL m = m1 at *
  go_wp2_with fail
  refine hGH.out.mono ?_
  rintro e w3 ⟨t2, F3, R3, H3, rfl, hpr, hgo, hS3, hH3, hT3⟩
  have hF3 : Hid (∀ b, F3 b → w.heap.size ≤ b) := Lib.hid (fun b hb => by
    rcases hT3.grow b hb with h1 | h1
    · exact hmoH.out.Fl b h1
    · exact Nat.le_trans hbw2.out.size h1)
  have hbw3 := Lib.hid (hbw2.out.trans (hT3.to_below hbw2.out.size hmoH.out.Fl))
  have hsh3 : Hid (Short R3) := Lib.hid (hgo.short (hmoH.out.out.short (fun x ws e => by cases e)))
  have hz3 : Hid (R3 0 = none) := Lib.hid (hgo.zero (hmoH.out.out.zero rfl))
  have hat1 : Hid (t.At R3) := Lib.hid (hgo.other hmoH.out.out.at')
  have hap : Hid (∀ x ∈ t2.hs, x ∉ t.hs) := Lib.hid (fun x hx hm => hgo.apart hmoH.out.out.at' x hm hx)
  have hgoH := Lib.hid hgo
  have hS3H := Lib.hid hS3
  have hprH := Lib.hid hpr
  obtain ⟨n3, hrd3, _⟩ := hS3.rd
  have hTN := Lib.hid (treeNil hrd3 hsh3.out hz3.out)
  have hFi := tfind_no hTN.out (k := key) (by unfold hasK; simp)
  rw [show ((BT.root .nil : Nat) : Int) = 0 from rfl] at hFi
  have hFiH := Lib.hid hFi
  clear hpr hgo hS3 hH3 hT3 hGH hrd3 hFi
  go_wp2_with fail
  refine hFiH.out.mono ?_
  rintro e w4 ⟨rfl, hb4⟩
  have hb4H := Lib.hid hb4
  have hAt := tat_out (hTN.out.below hb4) (i := 0) (by simp)
  rw [show ((BT.root .nil : Nat) : Int) = 0 from rfl] at hAt
  have hAtH := Lib.hid hAt
  clear hb4 hAt hFiH
  go_wp2_with fail
  refine hAtH.out.mono ?_
  rintro e w5 ⟨rfl, hb5⟩
  have hb5H := Lib.hid (hb4H.out.trans (hb5.mono hb4H.out.size))
  have hFr := Lib.hid (wfree_at (hS3H.out.below hb5H.out) hsh3.out hat1.out (by rw [hmoH.out.prs]; exact hrl.out) hmoH.out.out.nodup)
  clear hb5 hAtH
  go_wp2_with fail
  refine hFr.out.mono ?_
  rintro e w6 ⟨F6, H6, rfl, hS6, hT6⟩
  have hbw5 := Lib.hid (hbw3.out.trans (hb5H.out.mono hbw3.out.size))
  have hbw6 := Lib.hid (hbw5.out.trans (hT6.to_below hbw5.out.size hF3.out))
  have hT6H := Lib.hid (hTH.out.below hbw6.out (tab_lt hTH.out))
  have hsh6 := Lib.hid (hsh3.out.drop t.hs)
  have hz6 : Hid (dropR R3 t.hs 0 = none) := Lib.hid (dropR_zero hz3.out)
  obtain ⟨n6, hTR6, _⟩ := treeIn hS6 hsh6.out hz6.out (dropR_at hgoH.out.at' hap.out) hprH.out hrm.out hgoH.out.nodup
  have hTN6 := Lib.hid (treeNil hTR6.rd hsh6.out hz6.out)
  have hRk := trank_at hTN6.out key
  rw [show ((BT.root .nil : Nat) : Int) = 0 from rfl, show rankL [] key = 0 from rfl] at hRk
  have hRkH := Lib.hid hRk
  have hLi := fun W (hb : Below w6.heap.size w6 W) => tlist_at (hTN6.out.below hb)
  rw [show ((BT.root .nil : Nat) : Int) = 0 from rfl] at hLi
  have hLiH := Lib.hid hLi
  have hSz := Lib.hid (fun W (hb : Below w6.heap.size w6 W) => tsize_at (hTR6.below hb))
  have hCk := Lib.hid (fun W (hb : Below w6.heap.size w6 W) => check_at (hTR6.rd.below hb) hsh6.out t.root (by
    obtain ⟨n1, hr1, _⟩ := hS3H.out.rd
    exact BT.root_lt hat1.out hr1))
  have hAw := Lib.hid (fun W (hb : Below w6.heap.size w6 W) => awake_at (hT6H.out.below hb (tab_lt hT6H.out)))
  have hgone : Hid (0 < l1.length → checkR (dropR R3 t.hs) n6 t.root = 8) := Lib.hid (fun hp => by
    have hne : t.root ≠ 0 := by
      cases ht : t with
      | nil => have h9 := BT.prs_len t; rw [hmoH.out.prs, ht] at h9; have h10 : l1.length = 0 := h9; omega
      | node x kh vh mm k v l r => rw [ht] at hat1; exact hat1.out.1
    exact check_gone _ _ hne (dropR_in (BT.root_in hne)))
  clear hS6 hT6 hFr hTR6 hRk hLi
  go_wp2_with fail
  refine hRkH.out.mono ?_
  rintro e w7 ⟨rfl, hb7⟩
  have hb7H := Lib.hid hb7
  clear hb7
  go_wp2_with fail
  refine (hLiH.out _ hb7H.out).mono ?_
  rintro e w8 ⟨v8, rfl, hro8, hb8⟩
  obtain ⟨A8, c8, rfl⟩ := ownsRow_form hro8
  have hb8H := Lib.hid (hb7H.out.trans (hb8.mono hb7H.out.size))
  clear hb8 hro8
  go_wp2_with fail
  refine (hSz.out _ hb8H.out).mono ?_
  rintro e w9 ⟨rfl, hb9⟩
  have hb9H := Lib.hid (hb8H.out.trans (hb9.mono hb8H.out.size))
  clear hb9
  by_cases hl0 : l1.length = 0
  · have dl : ((l1.length : Int) == 0) = true := by rw [hl0]; rfl
    go_wp2_with fail
    refine (hAw.out _ hb9H.out).mono ?_
    rintro e w10 ⟨rfl, hb10⟩
    have hb10H := Lib.hid (hbw6.out.trans ((hb9H.out.trans (hb10.mono hb9H.out.size)).mono hbw6.out.size))
    clear hb10
    go_wp2
    go_ret
    exact ⟨rfl, hb10H.out⟩
  · have dl : ((l1.length : Int) == 0) = false := beq_eq_false_iff_ne.2 (by omega)
    have hg := hgone.out (by omega)
    have hCk9 := hCk.out _ hb9H.out
    rw [hg] at hCk9
    have hCk9H := Lib.hid hCk9
    clear hCk9 hg
    go_wp2_with fail
    refine hCk9H.out.mono ?_
    rintro e w10 ⟨rfl, hb10⟩
    have hb10H := Lib.hid (hb9H.out.trans (hb10.mono hb9H.out.size))
    clear hb10
    go_wp2_with fail
    refine (hAw.out _ hb10H.out).mono ?_
    rintro e w11 ⟨rfl, hb11⟩
    have hb11H := Lib.hid (hbw6.out.trans ((hb10H.out.trans (hb11.mono hb10H.out.size)).mono hbw6.out.size))
    clear hb11
    go_wp2
    go_ret
    exact ⟨rfl, hb11H.out⟩
end Go.Proofs.YtdcglpagdnhkgaaGreatDoor

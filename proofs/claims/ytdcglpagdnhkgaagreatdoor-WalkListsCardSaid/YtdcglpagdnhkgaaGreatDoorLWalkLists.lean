/-
  The seat's own texts, what WalkLists wants besides: Lists.
-/
import Derived.Test.YtdcglpagdnhkgaaGreatDoorMi
/- loftlaw11.WalkLists: the walk. -/
set_option linter.unusedVariables false
set_option linter.unusedSimpArgs false
namespace Go.Proofs.YtdcglpagdnhkgaaGreatDoor
open Go.RowKit Go.Shelf
theorem rank_own {l : List Pr} (h : Rising l) {i : Nat} (hi : i < l.length) : rankL l l[i].1 = i ∧ hasK l l[i].1 := by
  have hr : rankL l l[i].1 = i := by
    obtain ⟨h1, h2⟩ := rank_split (k := l[i].1) h
    have hle := rankL_le l l[i].1
    have hself : Tx.cmp l[i].1 l[i].1 = 0 := cmp_zero.2 rfl
    by_cases c1 : i < rankL l l[i].1
    · have := h1 l[i] (List.mem_take_iff_getElem.2 ⟨i, by omega, rfl⟩)
      omega
    · by_cases c2 : rankL l l[i].1 < i
      · have h3 := h2 (l[rankL l l[i].1]'(by omega)) (by rw [List.drop_eq_getElem_cons (by omega)]; exact List.mem_cons_self)
        have h4 := List.pairwise_iff_getElem.1 h _ _ (by omega) hi c2
        exact absurd h4 h3
      · omega
  refine ⟨hr, ?_⟩
  unfold hasK
  rw [hr, List.getElem?_eq_getElem hi]
  rfl
theorem tfind_own {w : World} {s N n : Nat} {R : Nat → Option (List Nat)} {t : BT} {l : List Pr} (h : TreeR N w s R n t l) {i : Nat} (hi : i < l.length) (hi2 : i < t.nodes.length) :
    Calls Tryz.prog 15 #[.pointer (some ⟨s, 0, none⟩), .int .u64 (t.root : Nat), .string l[i].1] w fun e w' => e = .returned (.tuple #[.int .u64 (t.nodes[i] : Nat), .bool true]) ∧ Below w.heap.size w w' := by
  obtain ⟨hrk, hhas⟩ := rank_own h.ris hi
  obtain ⟨_, hF⟩ := tfind_yes h hhas
  simp only [hrk] at hF
  exact hF
set_option maxHeartbeats 1000000 in
set_option maxRecDepth 100000 in
theorem lists_0 {w : World} (hT : Tab w) (l : List Pr) (A A' : Option Addr) (c c' m : Nat) (hl2 : l.length ≤ 9223372036854775807) (h : ILaw w A l) (hlong : 60 < l.length ∨ (l.length ≤ 60 ∧ longL l = true)) :
    Calls Tryz.prog 5 #[.slice A l.length c, .slice A' m c'] w (TrueB w) := by
  have hA := Lib.hid (awake_at hT)
  have hL := refLong_at (c := c) h.1.prs hl2 h.2.1
  clear hT h
  unfold TrueB
  rcases hlong with hl | ⟨hl, hlong⟩
  · have d1 : decide ((60 : Int) < (l.length : Int)) = true := by simp; omega
    clear hL
    go_enter Tryz.func5, Tryz.ntmps5
    go_wp2_with fail
    refine hA.out.mono ?_
    rintro e w1 ⟨rfl, hb1⟩
    have hbH := Lib.hid hb1
    clear hb1
    go_wp2
    go_ret
    exact ⟨rfl, hbH.out⟩
  · have d1 : decide ((60 : Int) < (l.length : Int)) = false := by simp; omega
    rw [hlong] at hL
    have hLH := Lib.hid hL
    clear hL hlong
    go_enter Tryz.func5, Tryz.ntmps5
    go_wp2_with fail
    refine hLH.out.mono ?_
    rintro e w0 ⟨rfl, rfl⟩
    go_wp2_with fail
    refine hA.out.mono ?_
    rintro e w1 ⟨rfl, hb1⟩
    have hbH := Lib.hid hb1
    clear hb1
    go_wp2
    go_ret
    exact ⟨rfl, hbH.out⟩
set_option maxHeartbeats 4000000 in
set_option maxRecDepth 100000 in
theorem lists_main {w : World} (hT : Tab w) (l : List Pr) (A A' : Option Addr) (c c' : Nat) (zs : List Int) (h : ILaw w A l) (hz : IInts w A' zs) (hl : l.length ≤ 60) (hlong : longL l = false) :
    Calls Tryz.prog 5 #[.slice A l.length c, .slice A' zs.length c'] w (TrueB w) := by
  have hL := refLong_at (c := c) h.1.prs (by omega) h.2.1
  rw [hlong] at hL
  have hLH := Lib.hid hL
  have d1 : decide ((60 : Int) < (l.length : Int)) = false := by simp; omega
  have hM := Lib.hid (made_at (c := c) hT h.1 (by omega) (sized_of hlong) (c' := c') hz.2.1 hz.2.2 hz.1)
  have hTH := Lib.hid hT
  have hsl := sortedL_len l
  have hris := Lib.hid (sortedL_rising l)
  clear hT h hL hlong hz
  unfold TrueB
  go_enter Tryz.func5, Tryz.ntmps5
  go_wp2_with fail
  refine hLH.out.mono ?_
  rintro e w0 ⟨rfl, rfl⟩
  go_wp2_with fail
  refine hM.out.mono ?_
  rintro e w1 ⟨s, t, F, R, H, B, cB, rfl, hmo⟩
  obtain ⟨n, hTR, _⟩ := hmo.tree rfl
  generalize sortedL l = m at *
  have hTR1 := Lib.hid hTR
  have hrow := Lib.hid hmo.row
  have hb1 := Lib.hid hmo.bel
  have hT1 := Lib.hid (hTH.out.below hmo.bel (tab_lt hTH.out))
  have hLi := Lib.hid (tlist_at hTR)
  clear hmo hTR hLH hM
  go_wp2_with fail
  refine hLi.out.mono ?_
  rintro e w2 ⟨v, rfl, hro, hb2⟩
  obtain ⟨A2, cc, rfl⟩ := ownsRow_form hro
  have hnl := Lib.hid hTR1.out.nodes_len
  have hcells : Hid (∀ i (hi : i < m.length) (hi2 : i < t.nodes.length), ∃ g, A2 = some ⟨g, 0, none⟩ ∧ ∀ W, Below w2.heap.size w2 W → W.cell? ⟨g, i, none⟩ = some (.int .u64 (t.nodes[i] : Nat))) := Lib.hid (fun i hi hi2 => by
    obtain ⟨g, cap, hv⟩ := row_pos hro (by omega)
    cases hv
    refine ⟨g, rfl, fun W hb => ?_⟩
    have h1 := hro.cells (g := g) rfl i (.int .u64 (t.nodes[i] : Nat)) (by rw [hsV, List.getElem?_map, List.getElem?_eq_getElem hi2]; rfl)
    rw [show (⟨g, 0, none⟩ : Addr).add i = ⟨g, i, none⟩ by unfold Addr.add; split <;> simp_all] at h1
    exact (hb.cell (p := ⟨g, i, none⟩) (cell_lt h1)).trans h1)
  have hTR2 := Lib.hid (hTR1.out.below hb2)
  have hrow2 := Lib.hid (hrow.out.turn (Turn.below hb2))
  have hb2H := Lib.hid (hb1.out.trans (hb2.mono hb1.out.size))
  have hT2 := Lib.hid (hT1.out.below hb2 (tab_lt hT1.out))
  clear hro hb2 hLi
  go_wp2_with fail
  go_loopw [10] (fun iv wr => ∃ k : Nat, k ≤ m.length ∧ iv = .int .i64 k ∧ Hid (Below w2.heap.size w2 wr)) (fun iv _ => m.length - (intOf iv).toNat)
  case atStart => exact ⟨0, by omega, rfl, Lib.hid (Below.refl _ _)⟩
  case round =>
    obtain ⟨k, hk, rfl, hb⟩ := hrel
    by_cases hlt : k < m.length
    · have hk2 : k < t.nodes.length := by rw [hnl.out]; exact hlt
      obtain ⟨g, hA2, hgc⟩ := hcells.out k hlt hk2
      have hP := fun W (hb : Below w2.heap.size w2 W) => tpair_at (hTR2.out.below hb) hlt hk2
      have hAt := fun W (hb : Below w2.heap.size w2 W) => tat_in (hTR2.out.below hb) (i := (k : Int)) (by omega) (by omega) hk2
      have hFd := fun W (hb : Below w2.heap.size w2 W) => tfind_own (hTR2.out.below hb) hlt hk2
      have hq := fun W (hb : Below w2.heap.size w2 W) => (hrow2.out.turn (Turn.below hb)).pairs hlt
      obtain ⟨x, hx⟩ : ∃ x, t.nodes[k] = x := ⟨_, rfl⟩
      obtain ⟨p, hp⟩ : ∃ p, m[k] = p := ⟨_, rfl⟩
      simp only [Int.toNat_natCast, hx, hp] at hP hAt hFd hq hgc
      have hPH := Lib.hid hP
      have hAtH := Lib.hid hAt
      have hFdH := Lib.hid hFd
      have hqH := Lib.hid hq
      have hgcH := Lib.hid hgc
      obtain ⟨b, o, hBs, _, _⟩ := hq wr hb.out
      have hc0 := hgc wr hb.out
      subst hA2 hBs
      clear hP hAt hFd hq hgc hx hp
      go_wp2_with fail
      refine (hPH.out wr hb.out).mono ?_
      rintro e w3 ⟨rfl, hb3⟩
      have hb3H := Lib.hid (hb.out.trans (hb3.mono hb.out.size))
      have hz3 := hb3H.out.size
      have hb4H := Lib.hid (hb3H.out.alloc hz3 (Obj.cells #[Value.string p.1, Value.string p.2] 39))
      have r3 : (w3.alloc (Obj.cells #[Value.string p.1, Value.string p.2] 39)).cell? ⟨w3.heap.size, 0, none⟩ = some (.string p.1) := by go_simp
      have r4 : (w3.alloc (Obj.cells #[Value.string p.1, Value.string p.2] 39)).cell? ⟨w3.heap.size, 1, none⟩ = some (.string p.2) := by go_simp
      clear hb3 hc0
      go_wp2_with fail
      refine (hAtH.out _ hb4H.out).mono ?_
      rintro e w5 ⟨rfl, hb5⟩
      have s3 := (hb5.cell (p := ⟨w3.heap.size, 0, none⟩) (cell_lt r3)).trans r3
      have s4 := (hb5.cell (p := ⟨w3.heap.size, 1, none⟩) (cell_lt r4)).trans r4
      have hb5H := Lib.hid (hb4H.out.trans (hb5.mono hb4H.out.size))
      obtain ⟨b', o', hBs, q1, q2⟩ := hqH.out _ hb5H.out
      cases hBs
      clear hb5 r3 r4
      go_wp2_with fail
      refine (hFdH.out _ hb5H.out).mono ?_
      rintro e w6 ⟨rfl, hb6⟩
      have u3 := (hb6.cell (p := ⟨w3.heap.size, 0, none⟩) (cell_lt s3)).trans s3
      have u4 := (hb6.cell (p := ⟨w3.heap.size, 1, none⟩) (cell_lt s4)).trans s4
      have hb6H := Lib.hid (hb5H.out.trans (hb6.mono hb5H.out.size))
      obtain ⟨b', o', hBs, q3, q4⟩ := hqH.out _ hb6H.out
      cases hBs
      have hg6 := hgcH.out _ hb6H.out
      clear hb6 s3 s4 q1 q2
      go_wp2
      go_quiet (fail)
      go_wp2
      go_roundw
      case rel => exact ⟨k + 1, by omega, by go_num, Lib.hid (hb6H.out.trans ((Tx.drewN_below _ _).mono hb6H.out.size))⟩
      case measure => simp [intOf]; omega
    · obtain rfl : k = m.length := by omega
      have hAw := Lib.hid (awake_at (hT2.out.below hb.out (tab_lt hT2.out)))
      go_wp2_with fail
      refine hAw.out.mono ?_
      rintro e w6 ⟨rfl, hb6⟩
      have hb6H := Lib.hid (hb2H.out.trans ((hb.out.trans (hb6.mono hb.out.size)).mono hb2H.out.size))
      clear hb6
      go_wp2
      go_ret
      exact ⟨rfl, hb6H.out⟩
end Go.Proofs.YtdcglpagdnhkgaaGreatDoor

/-
  The seat's own texts, what RedJoins wants besides: Joins13.
-/
import Derived.Test.YtjpmlneihbckpaaGreatDoorNd
/- loftlaw13.RedJoins: the walk. -/
set_option linter.unusedVariables false
set_option linter.unusedSimpArgs false
namespace Go.Proofs.YtjpmlneihbckpaaGreatDoor
open Go.RowKit Go.Shelf
set_option maxHeartbeats 1000000 in
set_option maxRecDepth 100000 in
theorem joins13_0 {w : World} (hT : Tab w) (l : List Pr) (A : Option Addr) (c : Nat) (a : Int) (o1 o2 : Bool) (h : ILaw w A l) (hg : 60 < l.length ∨ (l.length ≤ 60 ∧ longL l = true)) :
    Calls Tryz.prog 6 #[.slice A l.length c, .int .i64 a, .bool o1, .bool o2] w (TrueB w) := by
  have hA := Lib.hid (awake13_at hT)
  have hL := refLong_at (c := c) h.1.prs h.2.2 h.2.1
  have z1 := h.2.2
  clear hT h
  unfold TrueB
  rcases hg with hl | ⟨hl, hlong⟩
  · have d1 : decide ((60 : Int) < (l.length : Int)) = true := by simp; omega
    clear hL
    go_enter Tryz.func6, Tryz.ntmps6
    go_wp2_with fail
    refine hA.out.mono ?_
    rintro e w1 ⟨rfl, hb1⟩
    have hbH := Lib.hid hb1
    clear hb1
    go_wp2
    go_ret
    exact ⟨rfl, hbH.out⟩
  · have d1 : decide ((60 : Int) < (l.length : Int)) = false := by simp; omega
    rw [hlong] at hL
    have hLH := Lib.hid hL
    clear hL hlong
    go_enter Tryz.func6, Tryz.ntmps6
    go_wp2_with fail
    refine hLH.out.mono ?_
    rintro e w0 ⟨rfl, rfl⟩
    go_wp2_with fail
    refine hA.out.mono ?_
    rintro e w1 ⟨rfl, hb1⟩
    have hbH := Lib.hid hb1
    clear hb1
    go_wp2
    go_ret
    exact ⟨rfl, hbH.out⟩
set_option maxHeartbeats 8000000 in
set_option maxRecDepth 100000 in
theorem joins13_main {w : World} (hT : Tab w) (l : List Pr) (A : Option Addr) (c : Nat) (a : Int) (o1 o2 : Bool) (h : ILaw w A l) (hab : -9223372036854775808 ≤ a ∧ a ≤ 9223372036854775807) (g1 : l.length ≤ 60) (g3 : longL l = false) :
    Calls Tryz.prog 6 #[.slice A l.length c, .int .i64 a, .bool o1, .bool o2] w (TrueB w) := by
  have hmo : Tryz.prog.follows .mixedOrders = true := by kernel_rfl
  have hL := refLong_at (c := c) h.1.prs h.2.2 h.2.1
  rw [g3] at hL
  have hLH := Lib.hid hL
  have d1 : decide ((60 : Int) < (l.length : Int)) = false := by simp; omega
  have hso := Lib.hid (refSorted_at (c := c) h.1.prs (Nat.le_refl _) (by omega) h.2.1)
  have hTH := Lib.hid hT
  have hsl := sortedL_len l
  have hrs := Lib.hid (sortedL_rising l)
  have hszl := sized_of g3
  have hszm : Hid (∀ p ∈ sortedL l, p.1.size ≤ 1000 ∧ p.2.size ≤ 1000) := Lib.hid (fun p hp => hszl p (sortedL_mem hp))
  clear hT h hL g3 hszl
  unfold TrueB
  go_enter Tryz.func6, Tryz.ntmps6
  go_wp2_with fail
  refine hLH.out.mono ?_
  rintro e w0 ⟨rfl, rfl⟩
  go_wp2_with fail
  refine hso.out.mono ?_
  rintro e w2 ⟨v, rfl, hrow, hb2⟩
  obtain ⟨A2, c2, rfl, hA2, hc2, hP2⟩ := own_pairs hrow rfl
  have hbw2 := Lib.hid hb2
  have hP2H := Lib.hid hP2
  have hT2 := Lib.hid (hTH.out.below hb2 (tab_lt hTH.out))
  clear hrow hb2 hP2 hso hLH hA2
  generalize sortedL l = m at *
  by_cases hm0 : m.length = 0
  · have dm : ((m.length : Int) == 0) = true := by rw [hm0]; rfl
    have hA := Lib.hid (awake13_at hT2.out)
    go_wp2_with fail
    refine hA.out.mono ?_
    rintro e w3 ⟨rfl, hb3⟩
    have hbH := Lib.hid (hbw2.out.trans (hb3.mono hbw2.out.size))
    clear hb3
    go_wp2
    go_ret
    exact ⟨rfl, hbH.out⟩
  · have dm : ((m.length : Int) == 0) = false := beq_eq_false_iff_ne.2 (by omega)
    obtain ⟨ix, hix, hixe, hi1, hi2⟩ := idx_any a m.length (by omega)
    obtain ⟨p, hp⟩ : ∃ p, m[ix] = p := ⟨_, rfl⟩
    have hpm := Lib.hid hp
    have hszp := hszm.out p (hp ▸ List.getElem_mem hix)
    have hN := Lib.hid (snew_at hT2.out 262144 1000 4294967295 (by omega) (by omega) (by omega) (by omega) (by omega))
    clear hp
    go_wp2_with fail
    refine hN.out.mono ?_
    rintro e w3 ⟨s, F, rfl, hS, hs3, hF3, hb3⟩
    clear hixe hi1 hi2 hN
    obtain ⟨A3, hA3⟩ : ∃ A3, A3 = dropA A2 c2 (ix + 1) := ⟨_, rfl⟩
    have hdr : ∀ (W : World) (F : Nat → Prop), CellsF W F A2 (prsV m) → CellsF W F A3 (prsV (m.drop (ix + 1))) := fun W F hW => by rw [hA3]; exact hW.drop' (by omega) hc2
    have hixc : ix ≤ c2 := by omega
    have hA3H := Lib.hid hA3
    clear hA3
    have hwi : IntKind.i64.wrap ((ix : Int) + 1) = (ix : Int) + 1 := IntWalk.i64_in _ (by omega)
    have hcf3 : CellsF w3 F A2 (prsV m) := CellsF.of_prs (hP2H.out.below hb3) (by exact hb3.size) hF3
    have htl : Hid ((m.take ix).length = ix ∧ (m.drop (ix + 1)).length = m.length - (ix + 1)) := Lib.hid ⟨by rw [List.length_take]; omega, List.length_drop⟩
    have hB1 := built13_at (c := c2) hS (by rfl) (hcf3.take' ix) (by rw [htl.out.1]; omega) (fun p hp => hszm.out p (List.mem_of_mem_take hp)) (by rw [htl.out.1]; omega) (by rw [htl.out.1]; simp; omega) (by rw [htl.out.1]; omega) o1
    rw [htl.out.1] at hB1
    have hB1H := Lib.hid (fun W (hb : Below w3.heap.size w3 W) => built13_at (c := c2) (hS.below hb) (by rfl) ((hcf3.turn (Turn.below hb)).take' ix) (by rw [htl.out.1]; omega) (fun p hp => hszm.out p (List.mem_of_mem_take hp)) (by rw [htl.out.1]; omega) (by rw [htl.out.1]; simp; omega) (by rw [htl.out.1]; omega) o1)
    rw [htl.out.1] at hB1H
    have hcf3H := Lib.hid hcf3
    have hdrH := Lib.hid hdr
    have hb3H := Lib.hid (hbw2.out.trans (hb3.mono hbw2.out.size))
    have hF3H : Hid (∀ b, F b → w.heap.size ≤ b) := Lib.hid (fun b hb => Nat.le_trans hbw2.out.size (hF3 b hb))
    clear hcf3 hdr hb3 hF3 hS hB1
    go_wp2_with fail
    refine wp_region_row (fun w' => ∃ X : Kp w3 F, w' = X.W) [0, 1, 2, 3, 4, 6, 7, 8, 9, 10, 11] [5, 12, 13, 14] hmo (by kernel_rfl) rfl (by kernel_rfl) (Kp.start _ _) (fun _ _ d _ _ h => by cases d <;> exact h) ?_
    refine wpReads_step _ _ rfl rfl (by rintro _ ⟨X, rfl⟩; go_simp; exact rfl) ?_
    go_simp
    refine wpReads_step _ _ rfl rfl (by rintro _ ⟨X, rfl⟩; go_simp; exact rfl) ?_
    go_simp
    refine wpReads_step _ _ rfl rfl (by rintro _ ⟨X, rfl⟩; go_simp; exact rfl) ?_
    go_simp
    refine wpReads_step _ (.slice A2 ix c2) rfl rfl (by rintro _ ⟨X, rfl⟩; go_simp) ?_
    go_simp
    refine wpReads_step _ _ rfl rfl (by rintro _ ⟨X, rfl⟩; go_simp; exact rfl) ?_
    go_simp
    refine wpReads_step _ _ rfl rfl (by rintro _ ⟨X, rfl⟩; go_simp; exact rfl) ?_
    go_simp
    refine wpReads_step _ _ rfl rfl (by rintro _ ⟨X, rfl⟩; go_simp; exact rfl) ?_
    go_simp
    refine wpReads_step _ _ rfl rfl (by rintro _ ⟨X, rfl⟩; go_simp; exact rfl) ?_
    go_simp
    refine wpReads_step _ _ rfl rfl (by rintro _ ⟨X, rfl⟩; go_simp; exact rfl) ?_
    go_simp
    refine wpReads_step _ (.slice A3 (m.length - (ix + 1)) (c2 - (ix + 1))) rfl rfl (by
      rintro _ ⟨X, rfl⟩
      go_simp
      rw [if_pos ⟨by omega, by omega⟩, hA3H.out]
      rfl) ?_
    go_simp
    refine wpReads_step _ _ rfl rfl (by rintro _ ⟨X, rfl⟩; go_simp; exact rfl) ?_
    go_simp
    refine wpReads_nil ?_
    clear hwi hixc hA3H
    refine wpActs_step _ rfl (fun K1 hK1 => ?_)
    go_wp2_with fail
    refine (hB1H.out _ (below_drawn w3)).mono ?_
    rintro e w4 ⟨ta, F4, R4, H4, rfl, hpa, hqa, hga, hS4, hH4, hT4⟩
    rw [htl.out.1] at hS4 hH4
    have hT4H := Lib.hid ((Turn.below (F := F) (below_drawn w3)).trans hT4)
    have hcf4 := Lib.hid (hcf3H.out.turn hT4H.out)
    have hz4 : R4 0 = none := hga.zero rfl
    have hB2 := built13_at (c := c2 - (ix + 1)) hS4 hz4 (hdrH.out w4 F4 hcf4.out) (by rw [htl.out.2]; omega) (fun p hp => hszm.out p (List.mem_of_mem_drop hp)) (by rw [htl.out.2]; omega) (by rw [htl.out.2, hH4]; simp; omega) (by rw [htl.out.2]; omega) o2
    rw [htl.out.2] at hB2
    have hB2H := Lib.hid hB2
    have hpaH := Lib.hid hpa
    have hqaH := Lib.hid hqa
    have hgaH := Lib.hid hga
    have hH4H := Lib.hid hH4
    obtain ⟨n4, hrd4, -⟩ := hS4.rd
    have hral := BT.root_lt hga.at' hrd4
    clear hpa hqa hga hS4 hT4 hH4 hB2 hB1H hcf3H hdrH hz4 hrd4
    go_wp2
    refine hK1 _ _ ⟨⟨w4, F4, hT4H.out⟩, rfl⟩ ?_
    clear hK1 K1
    refine wpActs_step _ rfl (fun K2 hK2 => ?_)
    go_wp2_with fail
    refine hB2H.out.mono ?_
    rintro e w5 ⟨tb, F5, R5, H5, rfl, hpb, hqb, hgb, hS5, hH5, hT5⟩
    rw [htl.out.2] at hS5 hH5
    have hT5H := Lib.hid (hT4H.out.trans hT5)
    have hcf5 := hcf4.out.turn hT5
    have hpbH := Lib.hid hpb
    have hqbH := Lib.hid hqb
    have hgbH := Lib.hid hgb
    have hH5H : Hid (H5.length = 3 * (m.length - 1)) := Lib.hid (by rw [hH5, hH4H.out]; simp only [List.length_nil]; omega)
    obtain ⟨n5, hrd5, -⟩ := hS5.rd
    have hrbl := BT.root_lt hgb.at' hrd5
    have hLf := leaf13_at hS5 p hszp.1 hszp.2 (by omega) (by rw [hH5H.out]; omega) (by omega)
    have hLfH := Lib.hid hLf
    have hcf5H := Lib.hid hcf5
    clear hpb hqb hgb hS5 hT5 hH5 hB2H hcf4 hcf5 hrd5 hLf
    go_wp2
    refine hK2 _ _ ⟨⟨w5, F5, hT5H.out⟩, rfl⟩ ?_
    clear hK2 K2
    refine wpActs_step _ rfl (fun K3 hK3 => ?_)
    go_wp2
    refine hK3 _ _ ⟨⟨w5, F5, hT5H.out⟩, rfl⟩ ?_
    clear hK3 K3
    refine wpActs_step _ rfl (fun K4 hK4 => ?_)
    go_wp2
    refine hK4 _ _ ⟨⟨w5, F5, hT5H.out⟩, rfl⟩ ?_
    clear hK4 K4
    refine wpActs_nil ?_
    obtain ⟨bb, oo, hAs, q1, q2⟩ := hcf5H.out.pairs hix
    subst hAs
    rw [hpm.out] at q1 q2
    go_wp2_with fail
    refine hLfH.out.mono ?_
    rintro e w6 ⟨x, kx, vx, F6, R6, H6, rfl, hgm, hS6, hH6, hT6, hx64⟩
    have hT6H := Lib.hid (hT5H.out.trans hT6)
    have hcf6 := Lib.hid (hcf5H.out.turn hT6)
    obtain ⟨ga, gb, gn, gf, go⟩ := grow_three (m0 := 0) hgaH.out hgbH.out hgm
    have hh6 : Hid (H6.length = 3 * m.length) := Lib.hid (by rw [hH6, hH5H.out]; omega)
    have hz6 : R6 0 = none := (go 0 (fun e => (gf 0 e).2 rfl)).trans rfl
    have hsh6 : Short R6 := hgm.short (hgbH.out.short (hgaH.out.short (fun x ws e => by cases e)))
    obtain ⟨n6, hTa, -⟩ := treeIn hS6 hsh6 hz6 ga hpaH.out (List.Pairwise.sublist (List.take_sublist _ _) hrs.out) hgaH.out.nodup
    obtain ⟨n6', hTb, -⟩ := treeIn hS6 hsh6 hz6 gb hpbH.out (List.Pairwise.sublist (List.drop_sublist _ _) hrs.out) hgbH.out.nodup
    have sza : ta.size = ix := by rw [← BT.prs_len, hpaH.out, htl.out.1]
    have szb : tb.size = m.length - (ix + 1) := by rw [← BT.prs_len, hpbH.out, htl.out.2]
    have hCa := Lib.hid (trbCheck_at hTa hqaH.out)
    have hCb := Lib.hid (fun W (hb : Below w6.heap.size w6 W) => trbCheck_at (hTb.below hb) hqbH.out)
    have hHa := Lib.hid (fun W (hb : Below w6.heap.size w6 W) => trbBlack_at (hTa.below hb).rd hz6 ga)
    have hHb := Lib.hid (fun W (hb : Below w6.heap.size w6 W) => trbBlack_at (hTb.below hb).rd hz6 gb)
    have hJ := Lib.hid (fun W (hb : Below w6.heap.size w6 W) => rbJoined_at (hS6.below hb) hz6 ga gb hqaH.out hqbH.out hgm.at' gn (by omega))
    have hgmH := Lib.hid hgm
    have hF6 : Hid (∀ b, F6 b → w.heap.size ≤ b) := Lib.hid (fun b hb => by
      rcases hT6H.out.grow b hb with h1 | h1
      · exact hF3H.out b h1
      · exact Nat.le_trans hb3H.out.size h1)
    have hbw6 := Lib.hid (hb3H.out.trans (hT6H.out.to_below hb3H.out.size hF3H.out))
    have hszab : Hid (ta.size + 1 + tb.size = m.length) := Lib.hid (by omega)
    have hla := BT.hgt_le ta
    have hlb := BT.hgt_le tb
    have hha : ta.bh ≤ 60 := by have := BT.bh_hgt hqaH.out; omega
    have hhb : tb.bh ≤ 60 := by have := BT.bh_hgt hqbH.out; omega
    clear hgm hS6 hH6 hT6 ga gb gn gf go hz6 hTa hTb hLfH q1 q2 hcf5H hH4H hH5H hT4H hT5H hla hlb
    go_wp2_with fail
    refine hCa.out.mono ?_
    rintro e w7 ⟨rfl, hb7⟩
    have hb7H := Lib.hid hb7
    clear hb7 hCa
    go_wp2_with fail
    refine (hCb.out _ hb7H.out).mono ?_
    rintro e w8 ⟨rfl, hb8⟩
    have hb8H := Lib.hid (hb7H.out.trans (hb8.mono hb7H.out.size))
    clear hb8 hCb
    go_wp2_with fail
    refine (hHa.out _ hb8H.out).mono ?_
    rintro e w9 ⟨rfl, hb9⟩
    have hb9H := Lib.hid (hb8H.out.trans (hb9.mono hb8H.out.size))
    clear hb9 hHa
    go_wp2_with fail
    refine (hHb.out _ hb9H.out).mono ?_
    rintro e w10 ⟨rfl, hb10⟩
    have hb10H := Lib.hid (hb9H.out.trans (hb10.mono hb9H.out.size))
    clear hb10 hHb
    go_wp2_with fail
    obtain ⟨hi, hhi⟩ : ∃ hi, max ta.bh tb.bh = hi := ⟨_, rfl⟩
    rw [show max (ta.bh : Int) (tb.bh : Int) = ((hi : Nat) : Int) by rw [← hhi]; omega]
    have hi60 : hi ≤ 60 := by omega
    refine (hJ.out _ hb10H.out).mono ?_
    rintro e w11 ⟨t, R11, rfl, at', sim, ok, frame, -, ⟨⟨hg1, hg2⟩, -⟩, hS11, hT11⟩
    have hgo : GrowOut _ R11 t := GrowOut.joined (m0 := 0) hgaH.out hgbH.out hgmH.out at' sim frame
    have hprs : t.prs = m := by
      rw [sim.prs]
      show ta.prs ++ p :: tb.prs = m
      rw [hpaH.out, hpbH.out, ← hpm.out, ← List.drop_eq_getElem_cons hix, List.take_append_drop]
    have hsh11 : Short R11 := hgo.short (fun x ws e => by cases e)
    have hz11 : R11 0 = none := hgo.zero rfl
    obtain ⟨n11, hTr, -⟩ := treeIn hS11 hsh11 hz11 at' hprs hrs.out hgo.nodup
    have szt : t.size = m.length := by rw [← BT.prs_len, hprs]
    rw [hhi] at hg1 hg2
    have hCr := Lib.hid (trbCheck_at hTr ok)
    have hcf11 := Lib.hid (hcf6.out.turn ((Turn.below (F := F6) hb10H.out).trans hT11))
    have hSr := Lib.hid (fun W (hb : Below w11.heap.size w11 W) => same13_at (c := c2) (hTr.below hb) (hcf11.out.turn (Turn.below hb)))
    have hHr := Lib.hid (fun W (hb : Below w11.heap.size w11 W) => trbBlack_at (hTr.below hb).rd hz11 at')
    have hle := Lib.hid (BT.bh_le ok)
    have hAl := Lib.hid (fun W (hb : Below w11.heap.size w11 W) => sall_at (hS11.below hb))
    have hbw11 := Lib.hid (hbw6.out.trans (((Turn.below (F := F6) hb10H.out).trans hT11).to_below hbw6.out.size hF6.out))
    have hT11' := Lib.hid (hTH.out.below hbw11.out (tab_lt hTH.out))
    have sztH := Lib.hid szt
    have ht60 : t.bh ≤ 6 := by
      have h1 := BT.bh_le ok
      rcases Nat.lt_or_ge 6 t.bh with h9 | h9
      · have : 2 ^ 7 ≤ 2 ^ t.bh := Nat.pow_le_pow_right (by decide) h9
        omega
      · exact h9
    clear at' sim ok frame hS11 hT11 hgo hprs hsh11 hz11 hTr szt hJ hhi
    obtain ⟨ht, hht⟩ : ∃ ht, t.bh = ht := ⟨_, rfl⟩
    rw [hht] at hg1 hg2 hHr hle ht60
    clear hht
    go_wp2_with fail
    refine hCr.out.mono ?_
    rintro e w12 ⟨rfl, hb12⟩
    have hb12H := Lib.hid hb12
    clear hb12 hCr
    go_wp2_with fail
    refine (hSr.out _ hb12H.out).mono ?_
    rintro e w13 ⟨rfl, hb13⟩
    have hb13H := Lib.hid (hb12H.out.trans (hb13.mono hb12H.out.size))
    clear hb13 hSr
    go_wp2_with fail
    refine (hHr.out _ hb13H.out).mono ?_
    rintro e w14 ⟨rfl, hb14⟩
    have hb14H := Lib.hid (hb13H.out.trans (hb14.mono hb13H.out.size))
    clear hb14 hHr
    have e1 : decide (hi ≤ ht) = true := decide_eq_true hg1
    have e1' : decide ((hi : Int) ≤ (ht : Int)) = true := decide_eq_true (by omega)
    have e2 : decide ((ht : Int) ≤ (hi : Int) + 1) = true := decide_eq_true (by omega)
    have hHi := Lib.hid (rleast_at (n := ht) (by omega) w14)
    have hpw : 2 ^ ht - 1 ≤ m.length := by have h1 := hle.out; have h2 := sztH.out; omega
    obtain ⟨lz, hlz⟩ : ∃ lz, 2 ^ ht - 1 = lz := ⟨_, rfl⟩
    rw [hlz] at hHi hpw
    have e3 : decide (lz ≤ m.length) = true := decide_eq_true hpw
    have e3' : decide ((lz : Int) ≤ (m.length : Int)) = true := decide_eq_true (by omega)
    clear hle hlz
    go_wp2_with fail
    refine hHi.out.mono ?_
    rintro e w15 ⟨rfl, rfl⟩
    clear hHi
    go_wp2_with fail
    refine (hAl.out _ hb14H.out).mono ?_
    rintro e w16 ⟨v16, Hs, rfl, hpm16, hro16, hb16⟩
    obtain ⟨A16, c16, rfl⟩ := ownsRow_form hro16
    have hlen16 : Hs.length = 3 * m.length := by rw [hpm16.length_eq, hh6.out]
    rw [hlen16]
    have e4 : ((((3 * m.length : Nat) : Int)) == 3 * (m.length : Int)) = true := by simp
    have hb16H := Lib.hid (hb14H.out.trans (hb16.mono hb14H.out.size))
    have hAw := Lib.hid (awake13_at (hT11'.out.below hb16H.out (tab_lt hT11'.out)))
    clear hb16 hro16 hAl hpm16 hlen16
    go_wp2_with fail
    refine hAw.out.mono ?_
    rintro e w17 ⟨rfl, hb17⟩
    have hb17H := Lib.hid (hbw11.out.trans ((hb16H.out.trans (hb17.mono hb16H.out.size)).mono hbw11.out.size))
    clear hb17
    go_wp2
    go_ret
    exact ⟨rfl, hb17H.out⟩
end Go.Proofs.YtjpmlneihbckpaaGreatDoor

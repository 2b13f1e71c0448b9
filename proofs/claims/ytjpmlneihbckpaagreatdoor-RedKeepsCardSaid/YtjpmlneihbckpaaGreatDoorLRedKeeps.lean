/-
  The seat's own texts, what RedKeeps wants besides: OpenB, Joins13, Nds, Keeps13.
-/
import Derived.Test.YtjpmlneihbckpaaGreatDoorNd
import Derived.SizedLaws
import Derived.Laws.AppendOwnNone
import Derived.Maps.AppendAt
import Derived.Deep.AppendLies
import Derived.Laws.OwnMore
/- A row of pairs that is read: its size. -/
set_option linter.unusedVariables false
set_option linter.unusedSimpArgs false
namespace Go.Proofs.YtjpmlneihbckpaaGreatDoor
open Go.ChangeShapes Go.WideShapes Go.ChangeAt Go.WideMaps Go.WideElems Go.RowKit Go.Deep
section
variable {H : Type} {enc : TypeId × Value → H} {w : World} {base : Nat} {held : Bool}
theorem open_prs_data {fuel : Nat} {cs : List Value} {x : DataW H × List MemPlace} (h : DataW.trod enc Tryz.prog w base (fun _ => true) held fuel 22 cs = some x) : ∃ A len cap, cs = [.slice A len cap] ∧ (len = 0 ∨ ∃ elems sp, x.1 = .slice elems sp ∧ elems.length = len) := by
  rcases open_slice_pairs Tryz.underlying22 Tryz.underlying46 (by kernel_rfl) rfl rfl (by kernel_rfl) (by kernel_rfl) h with ⟨hcs, _⟩ | ⟨a, len, cap, m, n, V0, V1, D0, D1, P0, P1, hcs, hb, hl, hm, hmm, hx, _⟩
  · exact ⟨none, 0, 0, hcs, .inl rfl⟩
  · exact ⟨some a, len, cap, hcs, .inr ⟨_, _, by rw [hx], by simp⟩⟩
theorem prs_bound {ts : List TypeId} {ds : List (DataW H)} (hw : (DataW.weightsEach Tryz.prog ts ds).all (· ≤ reachBytes) = true) {j fuel len cap : Nat} {A : Option Addr} {d : DataW H} {p : List MemPlace} (ht : ts[j]? = some 22) (hd : ds[j]? = some d)
    (h : DataW.trod enc Tryz.prog w base (fun _ => true) held fuel 22 [.slice A len cap] = some (d, p)) : len ≤ 4398046510976 := by
  obtain ⟨A', len', cap', hcs, hh⟩ := open_prs_data h
  simp only [List.cons.injEq, Value.slice.injEq, and_true] at hcs
  obtain ⟨rfl, rfl, rfl⟩ := hcs
  rcases hh with rfl | ⟨elems, sp, hx, hl⟩
  · omega
  · simp only at hx
    rw [hx] at hd
    have h1 := sized_slice hw ht hd Tryz.underlying22
    rw [show Tryz.prog.bytesOf 46 = 32 by kernel_rfl, show reachBytes = 140737488351232 from rfl] at h1
    omega
end
end Go.Proofs.YtjpmlneihbckpaaGreatDoor
/- loftlaw13.RedJoins: the walk. -/
set_option linter.unusedVariables false
set_option linter.unusedSimpArgs false
namespace Go.Proofs.YtjpmlneihbckpaaGreatDoor
open Go.RowKit Go.Shelf
set_option maxHeartbeats 1000000 in
set_option maxRecDepth 100000 in
theorem joins13_0 {w : World} (hT : Tab w) (l : List Pr) (A : Option Addr) (c : Nat) (a : Int) (o1 o2 : Bool) (h : ILaw w A l) (hg : 60 < l.length ∨ (l.length ≤ 60 ∧ longL l = true)) :
    Calls Tryz.prog 6 #[.slice A l.length c, .int .i64 a, .bool o1, .bool o2] w (TrueB w) := by
  have hA := Lib.hid (awake13_at hT)
  have hL := refLong_at (c := c) h.1.prs h.2.2 h.2.1
  have z1 := h.2.2
  clear hT h
  unfold TrueB
  rcases hg with hl | ⟨hl, hlong⟩
  · have d1 : decide ((60 : Int) < (l.length : Int)) = true := by simp; omega
    clear hL
    go_enter Tryz.func6, Tryz.ntmps6
    go_wp2_with fail
    refine hA.out.mono ?_
    rintro e w1 ⟨rfl, hb1⟩
    have hbH := Lib.hid hb1
    clear hb1
    go_wp2
    go_ret
    exact ⟨rfl, hbH.out⟩
  · have d1 : decide ((60 : Int) < (l.length : Int)) = false := by simp; omega
    rw [hlong] at hL
    have hLH := Lib.hid hL
    clear hL hlong
    go_enter Tryz.func6, Tryz.ntmps6
    go_wp2_with fail
    refine hLH.out.mono ?_
    rintro e w0 ⟨rfl, rfl⟩
    go_wp2_with fail
    refine hA.out.mono ?_
    rintro e w1 ⟨rfl, hb1⟩
    have hbH := Lib.hid hb1
    clear hb1
    go_wp2
    go_ret
    exact ⟨rfl, hbH.out⟩
set_option maxHeartbeats 8000000 in
set_option maxRecDepth 100000 in
theorem joins13_main {w : World} (hT : Tab w) (l : List Pr) (A : Option Addr) (c : Nat) (a : Int) (o1 o2 : Bool) (h : ILaw w A l) (hab : -9223372036854775808 ≤ a ∧ a ≤ 9223372036854775807) (g1 : l.length ≤ 60) (g3 : longL l = false) :
    Calls Tryz.prog 6 #[.slice A l.length c, .int .i64 a, .bool o1, .bool o2] w (TrueB w) := by
  have hmo : Tryz.prog.follows .mixedOrders = true := by kernel_rfl
  have hL := refLong_at (c := c) h.1.prs h.2.2 h.2.1
  rw [g3] at hL
  have hLH := Lib.hid hL
  have d1 : decide ((60 : Int) < (l.length : Int)) = false := by simp; omega
  have hso := Lib.hid (refSorted_at (c := c) h.1.prs (Nat.le_refl _) (by omega) h.2.1)
  have hTH := Lib.hid hT
  have hsl := sortedL_len l
  have hrs := Lib.hid (sortedL_rising l)
  have hszl := sized_of g3
  have hszm : Hid (∀ p ∈ sortedL l, p.1.size ≤ 1000 ∧ p.2.size ≤ 1000) := Lib.hid (fun p hp => hszl p (sortedL_mem hp))
  clear hT h hL g3 hszl
  unfold TrueB
  go_enter Tryz.func6, Tryz.ntmps6
  go_wp2_with fail
  refine hLH.out.mono ?_
  rintro e w0 ⟨rfl, rfl⟩
  go_wp2_with fail
  refine hso.out.mono ?_
  rintro e w2 ⟨v, rfl, hrow, hb2⟩
  obtain ⟨A2, c2, rfl, hA2, hc2, hP2⟩ := own_pairs hrow rfl
  have hbw2 := Lib.hid hb2
  have hP2H := Lib.hid hP2
  have hT2 := Lib.hid (hTH.out.below hb2 (tab_lt hTH.out))
  clear hrow hb2 hP2 hso hLH hA2
  generalize sortedL l = m at *
  by_cases hm0 : m.length = 0
  · have dm : ((m.length : Int) == 0) = true := by rw [hm0]; rfl
    have hA := Lib.hid (awake13_at hT2.out)
    go_wp2_with fail
    refine hA.out.mono ?_
    rintro e w3 ⟨rfl, hb3⟩
    have hbH := Lib.hid (hbw2.out.trans (hb3.mono hbw2.out.size))
    clear hb3
    go_wp2
    go_ret
    exact ⟨rfl, hbH.out⟩
  · have dm : ((m.length : Int) == 0) = false := beq_eq_false_iff_ne.2 (by omega)
    obtain ⟨ix, hix, hixe, hi1, hi2⟩ := idx_any a m.length (by omega)
    obtain ⟨p, hp⟩ : ∃ p, m[ix] = p := ⟨_, rfl⟩
    have hpm := Lib.hid hp
    have hszp := hszm.out p (hp ▸ List.getElem_mem hix)
    have hN := Lib.hid (snew_at hT2.out 262144 1000 4294967295 (by omega) (by omega) (by omega) (by omega) (by omega))
    clear hp
    go_wp2_with fail
    refine hN.out.mono ?_
    rintro e w3 ⟨s, F, rfl, hS, hs3, hF3, hb3⟩
    clear hixe hi1 hi2 hN
    obtain ⟨A3, hA3⟩ : ∃ A3, A3 = dropA A2 c2 (ix + 1) := ⟨_, rfl⟩
    have hdr : ∀ (W : World) (F : Nat → Prop), CellsF W F A2 (prsV m) → CellsF W F A3 (prsV (m.drop (ix + 1))) := fun W F hW => by rw [hA3]; exact hW.drop' (by omega) hc2
    have hixc : ix ≤ c2 := by omega
    have hA3H := Lib.hid hA3
    clear hA3
    have hwi : IntKind.i64.wrap ((ix : Int) + 1) = (ix : Int) + 1 := IntWalk.i64_in _ (by omega)
    have hcf3 : CellsF w3 F A2 (prsV m) := CellsF.of_prs (hP2H.out.below hb3) (by exact hb3.size) hF3
    have htl : Hid ((m.take ix).length = ix ∧ (m.drop (ix + 1)).length = m.length - (ix + 1)) := Lib.hid ⟨by rw [List.length_take]; omega, List.length_drop⟩
    have hB1 := built13_at (c := c2) hS (by rfl) (hcf3.take' ix) (by rw [htl.out.1]; omega) (fun p hp => hszm.out p (List.mem_of_mem_take hp)) (by rw [htl.out.1]; omega) (by rw [htl.out.1]; simp; omega) (by rw [htl.out.1]; omega) o1
    rw [htl.out.1] at hB1
    have hB1H := Lib.hid (fun W (hb : Below w3.heap.size w3 W) => built13_at (c := c2) (hS.below hb) (by rfl) ((hcf3.turn (Turn.below hb)).take' ix) (by rw [htl.out.1]; omega) (fun p hp => hszm.out p (List.mem_of_mem_take hp)) (by rw [htl.out.1]; omega) (by rw [htl.out.1]; simp; omega) (by rw [htl.out.1]; omega) o1)
    rw [htl.out.1] at hB1H
    have hcf3H := Lib.hid hcf3
    have hdrH := Lib.hid hdr
    have hb3H := Lib.hid (hbw2.out.trans (hb3.mono hbw2.out.size))
    have hF3H : Hid (∀ b, F b → w.heap.size ≤ b) := Lib.hid (fun b hb => Nat.le_trans hbw2.out.size (hF3 b hb))
    clear hcf3 hdr hb3 hF3 hS hB1
    go_wp2_with fail
    refine wp_region_row (fun w' => ∃ X : Kp w3 F, w' = X.W) [0, 1, 2, 3, 4, 6, 7, 8, 9, 10, 11] [5, 12, 13, 14] hmo (by kernel_rfl) rfl (by kernel_rfl) (Kp.start _ _) (fun _ _ d _ _ h => by cases d <;> exact h) ?_
    refine wpReads_step _ _ rfl rfl (by rintro _ ⟨X, rfl⟩; go_simp; exact rfl) ?_
    go_simp
    refine wpReads_step _ _ rfl rfl (by rintro _ ⟨X, rfl⟩; go_simp; exact rfl) ?_
    go_simp
    refine wpReads_step _ _ rfl rfl (by rintro _ ⟨X, rfl⟩; go_simp; exact rfl) ?_
    go_simp
    refine wpReads_step _ (.slice A2 ix c2) rfl rfl (by rintro _ ⟨X, rfl⟩; go_simp) ?_
    go_simp
    refine wpReads_step _ _ rfl rfl (by rintro _ ⟨X, rfl⟩; go_simp; exact rfl) ?_
    go_simp
    refine wpReads_step _ _ rfl rfl (by rintro _ ⟨X, rfl⟩; go_simp; exact rfl) ?_
    go_simp
    refine wpReads_step _ _ rfl rfl (by rintro _ ⟨X, rfl⟩; go_simp; exact rfl) ?_
    go_simp
    refine wpReads_step _ _ rfl rfl (by rintro _ ⟨X, rfl⟩; go_simp; exact rfl) ?_
    go_simp
    refine wpReads_step _ _ rfl rfl (by rintro _ ⟨X, rfl⟩; go_simp; exact rfl) ?_
    go_simp
    refine wpReads_step _ (.slice A3 (m.length - (ix + 1)) (c2 - (ix + 1))) rfl rfl (by
      rintro _ ⟨X, rfl⟩
      go_simp
      rw [if_pos ⟨by omega, by omega⟩, hA3H.out]
      rfl) ?_
    go_simp
    refine wpReads_step _ _ rfl rfl (by rintro _ ⟨X, rfl⟩; go_simp; exact rfl) ?_
    go_simp
    refine wpReads_nil ?_
    clear hwi hixc hA3H
    refine wpActs_step _ rfl (fun K1 hK1 => ?_)
    go_wp2_with fail
    refine (hB1H.out _ (below_drawn w3)).mono ?_
    rintro e w4 ⟨ta, F4, R4, H4, rfl, hpa, hqa, hga, hS4, hH4, hT4⟩
    rw [htl.out.1] at hS4 hH4
    have hT4H := Lib.hid ((Turn.below (F := F) (below_drawn w3)).trans hT4)
    have hcf4 := Lib.hid (hcf3H.out.turn hT4H.out)
    have hz4 : R4 0 = none := hga.zero rfl
    have hB2 := built13_at (c := c2 - (ix + 1)) hS4 hz4 (hdrH.out w4 F4 hcf4.out) (by rw [htl.out.2]; omega) (fun p hp => hszm.out p (List.mem_of_mem_drop hp)) (by rw [htl.out.2]; omega) (by rw [htl.out.2, hH4]; simp; omega) (by rw [htl.out.2]; omega) o2
    rw [htl.out.2] at hB2
    have hB2H := Lib.hid hB2
    have hpaH := Lib.hid hpa
    have hqaH := Lib.hid hqa
    have hgaH := Lib.hid hga
    have hH4H := Lib.hid hH4
    obtain ⟨n4, hrd4, -⟩ := hS4.rd
    have hral := BT.root_lt hga.at' hrd4
    clear hpa hqa hga hS4 hT4 hH4 hB2 hB1H hcf3H hdrH hz4 hrd4
    go_wp2
    refine hK1 _ _ ⟨⟨w4, F4, hT4H.out⟩, rfl⟩ ?_
    clear hK1 K1
    refine wpActs_step _ rfl (fun K2 hK2 => ?_)
    go_wp2_with fail
    refine hB2H.out.mono ?_
    rintro e w5 ⟨tb, F5, R5, H5, rfl, hpb, hqb, hgb, hS5, hH5, hT5⟩
    rw [htl.out.2] at hS5 hH5
    have hT5H := Lib.hid (hT4H.out.trans hT5)
    have hcf5 := hcf4.out.turn hT5
    have hpbH := Lib.hid hpb
    have hqbH := Lib.hid hqb
    have hgbH := Lib.hid hgb
    have hH5H : Hid (H5.length = 3 * (m.length - 1)) := Lib.hid (by rw [hH5, hH4H.out]; simp only [List.length_nil]; omega)
    obtain ⟨n5, hrd5, -⟩ := hS5.rd
    have hrbl := BT.root_lt hgb.at' hrd5
    have hLf := leaf13_at hS5 p hszp.1 hszp.2 (by omega) (by rw [hH5H.out]; omega) (by omega)
    have hLfH := Lib.hid hLf
    have hcf5H := Lib.hid hcf5
    clear hpb hqb hgb hS5 hT5 hH5 hB2H hcf4 hcf5 hrd5 hLf
    go_wp2
    refine hK2 _ _ ⟨⟨w5, F5, hT5H.out⟩, rfl⟩ ?_
    clear hK2 K2
    refine wpActs_step _ rfl (fun K3 hK3 => ?_)
    go_wp2
    refine hK3 _ _ ⟨⟨w5, F5, hT5H.out⟩, rfl⟩ ?_
    clear hK3 K3
    refine wpActs_step _ rfl (fun K4 hK4 => ?_)
    go_wp2
    refine hK4 _ _ ⟨⟨w5, F5, hT5H.out⟩, rfl⟩ ?_
    clear hK4 K4
    refine wpActs_nil ?_
    obtain ⟨bb, oo, hAs, q1, q2⟩ := hcf5H.out.pairs hix
    subst hAs
    rw [hpm.out] at q1 q2
    go_wp2_with fail
    refine hLfH.out.mono ?_
    rintro e w6 ⟨x, kx, vx, F6, R6, H6, rfl, hgm, hS6, hH6, hT6, hx64⟩
    have hT6H := Lib.hid (hT5H.out.trans hT6)
    have hcf6 := Lib.hid (hcf5H.out.turn hT6)
    obtain ⟨ga, gb, gn, gf, go⟩ := grow_three (m0 := 0) hgaH.out hgbH.out hgm
    have hh6 : Hid (H6.length = 3 * m.length) := Lib.hid (by rw [hH6, hH5H.out]; omega)
    have hz6 : R6 0 = none := (go 0 (fun e => (gf 0 e).2 rfl)).trans rfl
    have hsh6 : Short R6 := hgm.short (hgbH.out.short (hgaH.out.short (fun x ws e => by cases e)))
    obtain ⟨n6, hTa, -⟩ := treeIn hS6 hsh6 hz6 ga hpaH.out (List.Pairwise.sublist (List.take_sublist _ _) hrs.out) hgaH.out.nodup
    obtain ⟨n6', hTb, -⟩ := treeIn hS6 hsh6 hz6 gb hpbH.out (List.Pairwise.sublist (List.drop_sublist _ _) hrs.out) hgbH.out.nodup
    have sza : ta.size = ix := by rw [← BT.prs_len, hpaH.out, htl.out.1]
    have szb : tb.size = m.length - (ix + 1) := by rw [← BT.prs_len, hpbH.out, htl.out.2]
    have hCa := Lib.hid (trbCheck_at hTa hqaH.out)
    have hCb := Lib.hid (fun W (hb : Below w6.heap.size w6 W) => trbCheck_at (hTb.below hb) hqbH.out)
    have hHa := Lib.hid (fun W (hb : Below w6.heap.size w6 W) => trbBlack_at (hTa.below hb).rd hz6 ga)
    have hHb := Lib.hid (fun W (hb : Below w6.heap.size w6 W) => trbBlack_at (hTb.below hb).rd hz6 gb)
    have hJ := Lib.hid (fun W (hb : Below w6.heap.size w6 W) => rbJoined_at (hS6.below hb) hz6 ga gb hqaH.out hqbH.out hgm.at' gn (by omega))
    have hgmH := Lib.hid hgm
    have hF6 : Hid (∀ b, F6 b → w.heap.size ≤ b) := Lib.hid (fun b hb => by
      rcases hT6H.out.grow b hb with h1 | h1
      · exact hF3H.out b h1
      · exact Nat.le_trans hb3H.out.size h1)
    have hbw6 := Lib.hid (hb3H.out.trans (hT6H.out.to_below hb3H.out.size hF3H.out))
    have hszab : Hid (ta.size + 1 + tb.size = m.length) := Lib.hid (by omega)
    have hla := BT.hgt_le ta
    have hlb := BT.hgt_le tb
    have hha : ta.bh ≤ 60 := by have := BT.bh_hgt hqaH.out; omega
    have hhb : tb.bh ≤ 60 := by have := BT.bh_hgt hqbH.out; omega
    clear hgm hS6 hH6 hT6 ga gb gn gf go hz6 hTa hTb hLfH q1 q2 hcf5H hH4H hH5H hT4H hT5H hla hlb
    go_wp2_with fail
    refine hCa.out.mono ?_
    rintro e w7 ⟨rfl, hb7⟩
    have hb7H := Lib.hid hb7
    clear hb7 hCa
    go_wp2_with fail
    refine (hCb.out _ hb7H.out).mono ?_
    rintro e w8 ⟨rfl, hb8⟩
    have hb8H := Lib.hid (hb7H.out.trans (hb8.mono hb7H.out.size))
    clear hb8 hCb
    go_wp2_with fail
    refine (hHa.out _ hb8H.out).mono ?_
    rintro e w9 ⟨rfl, hb9⟩
    have hb9H := Lib.hid (hb8H.out.trans (hb9.mono hb8H.out.size))
    clear hb9 hHa
    go_wp2_with fail
    refine (hHb.out _ hb9H.out).mono ?_
    rintro e w10 ⟨rfl, hb10⟩
    have hb10H := Lib.hid (hb9H.out.trans (hb10.mono hb9H.out.size))
    clear hb10 hHb
    go_wp2_with fail
    obtain ⟨hi, hhi⟩ : ∃ hi, max ta.bh tb.bh = hi := ⟨_, rfl⟩
    rw [show max (ta.bh : Int) (tb.bh : Int) = ((hi : Nat) : Int) by rw [← hhi]; omega]
    have hi60 : hi ≤ 60 := by omega
    refine (hJ.out _ hb10H.out).mono ?_
    rintro e w11 ⟨t, R11, rfl, at', sim, ok, frame, -, ⟨⟨hg1, hg2⟩, -⟩, hS11, hT11⟩
    have hgo : GrowOut _ R11 t := GrowOut.joined (m0 := 0) hgaH.out hgbH.out hgmH.out at' sim frame
    have hprs : t.prs = m := by
      rw [sim.prs]
      show ta.prs ++ p :: tb.prs = m
      rw [hpaH.out, hpbH.out, ← hpm.out, ← List.drop_eq_getElem_cons hix, List.take_append_drop]
    have hsh11 : Short R11 := hgo.short (fun x ws e => by cases e)
    have hz11 : R11 0 = none := hgo.zero rfl
    obtain ⟨n11, hTr, -⟩ := treeIn hS11 hsh11 hz11 at' hprs hrs.out hgo.nodup
    have szt : t.size = m.length := by rw [← BT.prs_len, hprs]
    rw [hhi] at hg1 hg2
    have hCr := Lib.hid (trbCheck_at hTr ok)
    have hcf11 := Lib.hid (hcf6.out.turn ((Turn.below (F := F6) hb10H.out).trans hT11))
    have hSr := Lib.hid (fun W (hb : Below w11.heap.size w11 W) => same13_at (c := c2) (hTr.below hb) (hcf11.out.turn (Turn.below hb)))
    have hHr := Lib.hid (fun W (hb : Below w11.heap.size w11 W) => trbBlack_at (hTr.below hb).rd hz11 at')
    have hle := Lib.hid (BT.bh_le ok)
    have hAl := Lib.hid (fun W (hb : Below w11.heap.size w11 W) => sall_at (hS11.below hb))
    have hbw11 := Lib.hid (hbw6.out.trans (((Turn.below (F := F6) hb10H.out).trans hT11).to_below hbw6.out.size hF6.out))
    have hT11' := Lib.hid (hTH.out.below hbw11.out (tab_lt hTH.out))
    have sztH := Lib.hid szt
    have ht60 : t.bh ≤ 6 := by
      have h1 := BT.bh_le ok
      rcases Nat.lt_or_ge 6 t.bh with h9 | h9
      · have : 2 ^ 7 ≤ 2 ^ t.bh := Nat.pow_le_pow_right (by decide) h9
        omega
      · exact h9
    clear at' sim ok frame hS11 hT11 hgo hprs hsh11 hz11 hTr szt hJ hhi
    obtain ⟨ht, hht⟩ : ∃ ht, t.bh = ht := ⟨_, rfl⟩
    rw [hht] at hg1 hg2 hHr hle ht60
    clear hht
    go_wp2_with fail
    refine hCr.out.mono ?_
    rintro e w12 ⟨rfl, hb12⟩
    have hb12H := Lib.hid hb12
    clear hb12 hCr
    go_wp2_with fail
    refine (hSr.out _ hb12H.out).mono ?_
    rintro e w13 ⟨rfl, hb13⟩
    have hb13H := Lib.hid (hb12H.out.trans (hb13.mono hb12H.out.size))
    clear hb13 hSr
    go_wp2_with fail
    refine (hHr.out _ hb13H.out).mono ?_
    rintro e w14 ⟨rfl, hb14⟩
    have hb14H := Lib.hid (hb13H.out.trans (hb14.mono hb13H.out.size))
    clear hb14 hHr
    have e1 : decide (hi ≤ ht) = true := decide_eq_true hg1
    have e1' : decide ((hi : Int) ≤ (ht : Int)) = true := decide_eq_true (by omega)
    have e2 : decide ((ht : Int) ≤ (hi : Int) + 1) = true := decide_eq_true (by omega)
    have hHi := Lib.hid (rleast_at (n := ht) (by omega) w14)
    have hpw : 2 ^ ht - 1 ≤ m.length := by have h1 := hle.out; have h2 := sztH.out; omega
    obtain ⟨lz, hlz⟩ : ∃ lz, 2 ^ ht - 1 = lz := ⟨_, rfl⟩
    rw [hlz] at hHi hpw
    have e3 : decide (lz ≤ m.length) = true := decide_eq_true hpw
    have e3' : decide ((lz : Int) ≤ (m.length : Int)) = true := decide_eq_true (by omega)
    clear hle hlz
    go_wp2_with fail
    refine hHi.out.mono ?_
    rintro e w15 ⟨rfl, rfl⟩
    clear hHi
    go_wp2_with fail
    refine (hAl.out _ hb14H.out).mono ?_
    rintro e w16 ⟨v16, Hs, rfl, hpm16, hro16, hb16⟩
    obtain ⟨A16, c16, rfl⟩ := ownsRow_form hro16
    have hlen16 : Hs.length = 3 * m.length := by rw [hpm16.length_eq, hh6.out]
    rw [hlen16]
    have e4 : ((((3 * m.length : Nat) : Int)) == 3 * (m.length : Int)) = true := by simp
    have hb16H := Lib.hid (hb14H.out.trans (hb16.mono hb14H.out.size))
    have hAw := Lib.hid (awake13_at (hT11'.out.below hb16H.out (tab_lt hT11'.out)))
    clear hb16 hro16 hAl hpm16 hlen16
    go_wp2_with fail
    refine hAw.out.mono ?_
    rintro e w17 ⟨rfl, hb17⟩
    have hb17H := Lib.hid (hbw11.out.trans ((hb16H.out.trans (hb17.mono hb16H.out.size)).mono hbw11.out.size))
    clear hb17
    go_wp2
    go_ret
    exact ⟨rfl, hb17H.out⟩
end Go.Proofs.YtjpmlneihbckpaaGreatDoor
/- Slices of nodes by value: the laws that keep what nodes held. -/
set_option linter.unusedVariables false
set_option linter.unusedSimpArgs false
namespace Go.Proofs.YtjpmlneihbckpaaGreatDoor
open Go.RowKit Go.Shelf
def ndC (x : Nd) : List Value := [.int .u64 (x.key : Nat), .int .u64 (x.val : Nat), .int .u64 (x.left : Nat), .int .u64 (x.right : Nat), .int .u64 (x.mark : Nat), .int .u64 (x.size : Nat)]
def ndsV (l : List Nd) : List Value := l.flatMap ndC
theorem ndsV_len (l : List Nd) : (ndsV l).length = l.length * 6 := by
  induction l with
  | nil => rfl
  | cons p l ih => simp only [ndsV, ndC, List.flatMap_cons, List.length_append, List.length_cons, List.length_nil] at ih ⊢; omega
theorem ndsV_append (l m : List Nd) : ndsV (l ++ m) = ndsV l ++ ndsV m := by simp [ndsV]
theorem ndsV_at : ∀ (l : List Nd) (k : Nat) (h : k < l.length), (ndsV l)[k * 6]? = some (.int .u64 (l[k].key : Nat)) ∧ (ndsV l)[k * 6 + 1]? = some (.int .u64 (l[k].val : Nat))
  | p :: l, 0, _ => ⟨rfl, rfl⟩
  | p :: l, k + 1, h => by
    have := ndsV_at l k (by simpa using h)
    rw [show (k + 1) * 6 = k * 6 + 6 by omega]
    exact this
theorem ndC_one (x : Nd) : ∀ u ∈ ndC x, u.oneCell' = true := by
  intro u hu
  unfold ndC at hu
  simp only [List.mem_cons, List.not_mem_nil, or_false] at hu
  rcases hu with rfl | rfl | rfl | rfl | rfl | rfl <;> rfl
theorem Tryz.under_nodes : Tryz.prog.underlying 59 = some (.slice 53) := by kernel_rfl
theorem Tryz.info_node : (Tryz.prog.info? 53).map (fun i => (i.zero, i.size, i.bytes)) = some (some (.agg #[.int .u64 0, .int .u64 0, .int .u64 0, .int .u64 0, .int .u64 0, .int .u64 0]), 6, 48) := by kernel_rfl
/-- 'append(out, x)', out the call's own: x lies in a fresh block of one node -/
theorem app_nd {ops : Array Oper} {rest : List Oper} {o : Oper} {a : Act} {Q : Exit → Act → World → Prop} (hgd : o.guard = none) (s x : Operand)
    (ho : o.op = .call { callee := .builtin .append, args := #[s, x], argTypes := #[59, 59] }) (w : World) (base : Nat) (v : Value) (xs : List Nd) (hs : a.eval s = v)
    (hown : w.ownsRow base 53 6 v xs.length (ndsV xs)) (b : Nat) (y : Nd) (hx : a.eval x = .slice (some ⟨b, 0, none⟩) 1 1) (hr : ∀ j u, (ndC y)[j]? = some u → w.cell? ⟨b, j, none⟩ = some u) (hlen : xs.length ≤ 1000000) (hbase : base ≤ w.heap.size)
    (h : ∀ v' w', w'.ownsRow base 53 6 v' (xs ++ [y]).length (ndsV (xs ++ [y])) → w.grownBy w' v.ownBlock → (v'.ownBlock = v.ownBlock ∨ v'.ownBlock = some w.heap.size) → wpList Tryz.prog ops Q rest (a.put o.dst v') w') :
    wpList Tryz.prog ops Q (o :: rest) a w := by
  obtain ⟨i0, hi, hz0, hz1, hz2⟩ := info_parts Tryz.info_node
  have hcells : ∀ j u, (ndC y)[j]? = some u → w.cell? ((⟨b, 0, none⟩ : Addr).add j) = some u := by
    intro j u hu
    rw [show (⟨b, 0, none⟩ : Addr).add j = ⟨b, j, none⟩ by unfold Addr.add; split <;> simp_all]
    exact hr j u hu
  refine wpList_append_own_at w hgd s x 59 ho base 53 i0 _ 6 48 Tryz.under_nodes hi hz0 hz1 hz2 rfl (by decide) v xs.length (ndsV xs) hs hown ⟨b, 0, none⟩ 1 1 (ndC y) hx rfl hcells (ndC_one y) (by unfold maxLen; omega) (by omega) hbase ?_
  intro v' w' h1 h2 _ h4
  exact h v' w' (by rw [List.length_append, ndsV_append]; simpa [ndsV] using h1) h2 h4
theorem ownN_below {w w1 w2 : World} {base z : Nat} {e : TypeId} {n : Nat} {v : Value} {xs : List Value} (hb : Below base w w1) (hown : w1.ownsRow base e z v n xs) (hg : w1.grownBy w2 v.ownBlock) (hB : base ≤ w1.heap.size) : Below base w w2 :=
  hb.trans ⟨hg.os, hg.tape, hg.output, hg.size, fun k hk => hg.block k (by omega) (fun e => by
    rcases hown.2 with ⟨rfl, _⟩ | ⟨g, cap, cur, rfl, hge, _⟩
    · simp [Value.ownBlock] at e
    · have : k = g := by simpa [Value.ownBlock] using e
      omega)⟩
theorem ownN_form {w : World} {base z : Nat} {e : TypeId} {v : Value} {n : Nat} {xs : List Value} (h : w.ownsRow base e z v n xs) : ∃ A c, v = .slice A n c := by
  rcases h.2 with ⟨rfl, rfl⟩ | ⟨g, cap, cur, rfl, _⟩
  · exact ⟨none, 0, rfl⟩
  · exact ⟨_, _, rfl⟩
theorem ownN_keep {B : Nat} {e : TypeId} {k : Nat} {v : Value} {n : Nat} {xs : List Value} {w w' : World} (h : w.ownsRow B e k v n xs) (hb : Below w.heap.size w w') : w'.ownsRow B e k v n xs :=
  h.kept (row := none) ⟨hb.os, hb.tape, hb.output, hb.size, fun j hj _ => hb.block j hj⟩ (by cases hv : v.ownBlock <;> simp)
theorem nd_new (W : World) (y : Nd) (b : Nat) (hb : b = W.heap.size) (T : TypeId) (j : Nat) (u : Value) (h : (ndC y)[j]? = some u) : (W.alloc (.cells #[.int .u64 (y.key : Nat), .int .u64 (y.val : Nat), .int .u64 (y.left : Nat), .int .u64 (y.right : Nat), .int .u64 (y.mark : Nat), .int .u64 (y.size : Nat)] T)).cell? ⟨b, j, none⟩ = some u := by
  subst hb
  match j, h with
  | 0, h => exact (by go_simp : _ = some (Value.int .u64 (y.key : Nat))).trans h
  | 1, h => exact (by go_simp : _ = some (Value.int .u64 (y.val : Nat))).trans h
  | 2, h => exact (by go_simp : _ = some (Value.int .u64 (y.left : Nat))).trans h
  | 3, h => exact (by go_simp : _ = some (Value.int .u64 (y.right : Nat))).trans h
  | 4, h => exact (by go_simp : _ = some (Value.int .u64 (y.mark : Nat))).trans h
  | 5, h => exact (by go_simp : _ = some (Value.int .u64 (y.size : Nat))).trans h
  | j + 6, h => cases h
theorem BT.size_nil {t : BT} (h : t.size = 0) : t = .nil := by
  cases t with
  | nil => rfl
  | node y ky vy m k v l r => simp only [BT.size] at h; omega
theorem BT.hgt_one {t : BT} (h : t.size ≠ 0) : t.hgt ≠ 0 := by
  cases t with
  | nil => exact absurd rfl h
  | node y ky vy m k v l r => simp only [BT.hgt]; omega
theorem own_none (w : World) (base z : Nat) (e : TypeId) : w.ownsRow base e z (.slice none 0 0) 0 [] := ⟨by simp, .inl ⟨rfl, rfl⟩⟩
/-- a row of numbers that lies off F, through a call that turns F -/
theorem row_off {w : World} {base c n : Nat} {A : Option Addr} {e : TypeId} {xs : List Value} {F : Nat → Prop} (h : w.ownsRow base e 1 (.slice A n c) n xs) (hF : ∀ b, F b → b < base) {i : Nat} {u : Value} (hi : i < n) (hu : xs[i]? = some u) :
    ∃ g, A = some ⟨g, 0, none⟩ ∧ ∀ W F', Turn w F W F' → W.cell? ⟨g, i, none⟩ = some u := by
  obtain ⟨g, cap, hv, hb, _⟩ := h.form (by omega)
  cases hv
  refine ⟨g, rfl, fun W F' hT => ?_⟩
  refine hT.cell ((h.cellAt i (by omega)).trans hu) (fun hf => ?_)
  have := hF _ hf
  simp only at this
  omega
theorem nds_off {w : World} {base c n : Nat} {A : Option Addr} {xs : List Nd} {F : Nat → Prop} (h : w.ownsRow base 53 6 (.slice A n c) n (ndsV xs)) (hn : n = xs.length) (hF : ∀ b, F b → b < base) {i : Nat} (hi : i < xs.length) :
    ∃ g, A = some ⟨g, 0, none⟩ ∧ ∀ W F', Turn w F W F' → W.cell? ⟨g, i * 6, none⟩ = some (.int .u64 (xs[i].key : Nat)) ∧ W.cell? ⟨g, i * 6 + 1, none⟩ = some (.int .u64 (xs[i].val : Nat)) := by
  obtain ⟨g, cap, hv, hb, _⟩ := h.form (by omega)
  cases hv
  obtain ⟨e1, e2⟩ := ndsV_at xs i hi
  have hg : ¬ F g := fun hf => by have := hF _ hf; omega
  exact ⟨g, rfl, fun W F' hT => ⟨hT.cell ((h.cellAt _ (by omega)).trans e1) hg, hT.cell ((h.cellAt _ (by omega)).trans e2) hg⟩⟩
end Go.Proofs.YtjpmlneihbckpaaGreatDoor
/- loftlaw13.RedKeeps: the walk. -/
set_option linter.unusedVariables false
set_option linter.unusedSimpArgs false
namespace Go.Proofs.YtjpmlneihbckpaaGreatDoor
open Go.RowKit Go.Shelf
set_option maxHeartbeats 2000000 in
set_option maxRecDepth 100000 in
theorem keeps13_0 {w : World} (hT : Tab w) (l : List Pr) (A : Option Addr) (c : Nat) (a : Int) (o1 o2 : Bool) (h : ILaw w A l) (hb42 : l.length ≤ 4398046510976) (hg : 60 < l.length ∨ (l.length ≤ 60 ∧ longL l = true) ∨ (l.length ≤ 60 ∧ longL l = false ∧ (sortedL l).length = 0)) :
    Calls Tryz.prog 8 #[.slice A l.length c, .int .i64 a, .bool o1, .bool o2] w (TrueB w) := by
  have hso := Lib.hid (refSorted_at (c := c) h.1.prs (Nat.le_refl _) (by omega) h.2.1)
  have hTH := Lib.hid hT
  have hL := fun W (hb : Below w.heap.size w W) => refLong_at (c := c) (h.1.prs.below hb) h.2.2 h.2.1
  have hLH := Lib.hid hL
  clear hT h hL
  unfold TrueB
  go_enter Tryz.func8, Tryz.ntmps8
  go_wp2_with fail
  refine hso.out.mono ?_
  rintro e w2 ⟨v, rfl, hrow, hb2⟩
  obtain ⟨A2, c2, rfl, -, -, -⟩ := own_pairs hrow rfl
  have hbw2 := Lib.hid hb2
  have hN := Lib.hid (snew_at (hTH.out.below hb2 (tab_lt hTH.out)) 262144 1000 4294967295 (by omega) (by omega) (by omega) (by omega) (by omega))
  clear hrow hb2 hso
  go_wp2_with fail
  refine hN.out.mono ?_
  rintro e w3 ⟨s, F, rfl, hS, hs3, hF3, hb3⟩
  have hb3H := Lib.hid (hbw2.out.trans (hb3.mono hbw2.out.size))
  have hAw := Lib.hid (awake13_at (hTH.out.below hb3H.out (tab_lt hTH.out)))
  clear hS hF3 hb3 hN
  rcases hg with hl | ⟨hl, hlong⟩ | ⟨hl, hlong, hm0⟩
  · have d1 : decide ((60 : Int) < (l.length : Int)) = true := by simp; omega
    go_wp2_with fail
    refine hAw.out.mono ?_
    rintro e w4 ⟨rfl, hb4⟩
    have hbH := Lib.hid (hb3H.out.trans (hb4.mono hb3H.out.size))
    clear hb4
    go_wp2
    go_ret
    exact ⟨rfl, hbH.out⟩
  · have d1 : decide ((60 : Int) < (l.length : Int)) = false := by simp; omega
    have hL3 := hLH.out w3 hb3H.out
    rw [hlong] at hL3
    have hL3H := Lib.hid hL3
    clear hL3 hlong
    go_wp2_with fail
    refine hL3H.out.mono ?_
    rintro e w4 ⟨rfl, rfl⟩
    go_wp2_with fail
    refine hAw.out.mono ?_
    rintro e w4 ⟨rfl, hb4⟩
    have hbH := Lib.hid (hb3H.out.trans (hb4.mono hb3H.out.size))
    clear hb4
    go_wp2
    go_ret
    exact ⟨rfl, hbH.out⟩
  · have d1 : decide ((60 : Int) < (l.length : Int)) = false := by simp; omega
    have hL3 := hLH.out w3 hb3H.out
    rw [hlong] at hL3
    have hL3H := Lib.hid hL3
    have dm : (((sortedL l).length : Int) == 0) = true := by rw [hm0]; rfl
    generalize (sortedL l).length = n at *
    clear hL3 hlong hm0
    go_wp2_with fail
    refine hL3H.out.mono ?_
    rintro e w4 ⟨rfl, rfl⟩
    go_wp2_with fail
    refine hAw.out.mono ?_
    rintro e w4 ⟨rfl, hb4⟩
    have hbH := Lib.hid (hb3H.out.trans (hb4.mono hb3H.out.size))
    clear hb4
    go_wp2
    go_ret
    exact ⟨rfl, hbH.out⟩
set_option maxHeartbeats 8000000 in
set_option maxRecDepth 100000 in
theorem keeps13_main {w : World} (hT : Tab w) (l : List Pr) (A : Option Addr) (c : Nat) (a : Int) (o1 o2 : Bool) (h : ILaw w A l) (hab : -9223372036854775808 ≤ a ∧ a ≤ 9223372036854775807) (g1 : l.length ≤ 60) (g3 : longL l = false) (hm0 : (sortedL l).length ≠ 0) :
    Calls Tryz.prog 8 #[.slice A l.length c, .int .i64 a, .bool o1, .bool o2] w (TrueB w) := by
  have hmo : Tryz.prog.follows .mixedOrders = true := by kernel_rfl
  have hso := Lib.hid (refSorted_at (c := c) h.1.prs (Nat.le_refl _) (by omega) h.2.1)
  have hTH := Lib.hid hT
  have hL := fun W (hb : Below w.heap.size w W) => refLong_at (c := c) (h.1.prs.below hb) h.2.2 h.2.1
  rw [g3] at hL
  have hLH := Lib.hid hL
  have d1 : decide ((60 : Int) < (l.length : Int)) = false := by simp; omega
  have hsl := sortedL_len l
  have hrs := Lib.hid (sortedL_rising l)
  have hszl := sized_of g3
  have hszm : Hid (∀ p ∈ sortedL l, p.1.size ≤ 1000 ∧ p.2.size ≤ 1000) := Lib.hid (fun p hp => hszl p (sortedL_mem hp))
  clear hT h hL g3 hszl
  unfold TrueB
  go_enter Tryz.func8, Tryz.ntmps8
  go_wp2_with fail
  refine hso.out.mono ?_
  rintro e w2 ⟨v, rfl, hrow, hb2⟩
  obtain ⟨A2, c2, rfl, hA2, hc2, hP2⟩ := own_pairs hrow rfl
  have hbw2 := Lib.hid hb2
  have hP2H := Lib.hid hP2
  have hT2 := Lib.hid (hTH.out.below hb2 (tab_lt hTH.out))
  clear hrow hb2 hP2 hso hA2
  generalize sortedL l = m at *
  have dm : ((m.length : Int) == 0) = false := beq_eq_false_iff_ne.2 (by omega)
  obtain ⟨ix, hix, hixe, hi1, hi2⟩ := idx_any a m.length (by omega)
  obtain ⟨p, hp⟩ : ∃ p, m[ix] = p := ⟨_, rfl⟩
  have hpm := Lib.hid hp
  have hszp := hszm.out p (hp ▸ List.getElem_mem hix)
  have hN := Lib.hid (snew_at hT2.out 262144 1000 4294967295 (by omega) (by omega) (by omega) (by omega) (by omega))
  clear hp
  go_wp2_with fail
  refine hN.out.mono ?_
  rintro e w3 ⟨s, F, rfl, hS, hs3, hF3, hb3⟩
  have hL3 := Lib.hid (hLH.out w3 (hbw2.out.trans (hb3.mono hbw2.out.size)))
  clear hN hLH
  have hb3' := Lib.hid hb3
  have hF3' := Lib.hid hF3
  have hS' := Lib.hid hS
  clear hb3 hF3 hS
  go_wp2_with fail
  refine hL3.out.mono ?_
  rintro e w4 ⟨rfl, rfl⟩
  have hb3 := hb3'.out
  have hF3 := hF3'.out
  have hS := hS'.out
  clear hL3 hb3' hF3' hS'
  obtain ⟨A3, hA3⟩ : ∃ A3, A3 = dropA A2 c2 (ix + 1) := ⟨_, rfl⟩
  have hdr : ∀ (W : World) (F : Nat → Prop), CellsF W F A2 (prsV m) → CellsF W F A3 (prsV (m.drop (ix + 1))) := fun W F hW => by rw [hA3]; exact hW.drop' (by omega) hc2
  have hixc : ix ≤ c2 := by omega
  have hA3H := Lib.hid hA3
  clear hA3
  have hwi : IntKind.i64.wrap ((ix : Int) + 1) = (ix : Int) + 1 := IntWalk.i64_in _ (by omega)
  have hcf3 : CellsF w3 F A2 (prsV m) := CellsF.of_prs (hP2H.out.below hb3) (by exact hb3.size) hF3
  have htl : Hid ((m.take ix).length = ix ∧ (m.drop (ix + 1)).length = m.length - (ix + 1)) := Lib.hid ⟨by rw [List.length_take]; omega, List.length_drop⟩
  have hB1 := built13_at (c := c2) hS (by rfl) (hcf3.take' ix) (by rw [htl.out.1]; omega) (fun p hp => hszm.out p (List.mem_of_mem_take hp)) (by rw [htl.out.1]; omega) (by rw [htl.out.1]; simp; omega) (by rw [htl.out.1]; omega) o1
  rw [htl.out.1] at hB1
  have hB1H := Lib.hid (fun W (hb : Below w3.heap.size w3 W) => built13_at (c := c2) (hS.below hb) (by rfl) ((hcf3.turn (Turn.below hb)).take' ix) (by rw [htl.out.1]; omega) (fun p hp => hszm.out p (List.mem_of_mem_take hp)) (by rw [htl.out.1]; omega) (by rw [htl.out.1]; simp; omega) (by rw [htl.out.1]; omega) o1)
  rw [htl.out.1] at hB1H
  have hcf3H := Lib.hid hcf3
  have hdrH := Lib.hid hdr
  have hb3H := Lib.hid (hbw2.out.trans (hb3.mono hbw2.out.size))
  have hF3H : Hid (∀ b, F b → w.heap.size ≤ b) := Lib.hid (fun b hb => Nat.le_trans hbw2.out.size (hF3 b hb))
  clear hcf3 hdr hb3 hF3 hS hB1
  go_wp2_with fail
  clear hixe hi1 hi2
  refine wp_region_row (fun w' => ∃ X : Kp w3 F, w' = X.W) [0, 1, 2, 3, 4, 6, 7, 8, 9, 10, 11] [5, 12, 13, 14] hmo (by kernel_rfl) rfl (by kernel_rfl) (Kp.start _ _) (fun _ _ d _ _ h => by cases d <;> exact h) ?_
  refine wpReads_step _ _ rfl rfl (by rintro _ ⟨X, rfl⟩; go_simp; exact rfl) ?_
  go_simp
  refine wpReads_step _ _ rfl rfl (by rintro _ ⟨X, rfl⟩; go_simp; exact rfl) ?_
  go_simp
  refine wpReads_step _ _ rfl rfl (by rintro _ ⟨X, rfl⟩; go_simp; exact rfl) ?_
  go_simp
  refine wpReads_step _ (.slice A2 ix c2) rfl rfl (by rintro _ ⟨X, rfl⟩; go_simp) ?_
  go_simp
  refine wpReads_step _ _ rfl rfl (by rintro _ ⟨X, rfl⟩; go_simp; exact rfl) ?_
  go_simp
  refine wpReads_step _ _ rfl rfl (by rintro _ ⟨X, rfl⟩; go_simp; exact rfl) ?_
  go_simp
  refine wpReads_step _ _ rfl rfl (by rintro _ ⟨X, rfl⟩; go_simp; exact rfl) ?_
  go_simp
  refine wpReads_step _ _ rfl rfl (by rintro _ ⟨X, rfl⟩; go_simp; exact rfl) ?_
  go_simp
  refine wpReads_step _ _ rfl rfl (by rintro _ ⟨X, rfl⟩; go_simp; exact rfl) ?_
  go_simp
  refine wpReads_step _ (.slice A3 (m.length - (ix + 1)) (c2 - (ix + 1))) rfl rfl (by
    rintro _ ⟨X, rfl⟩
    go_simp
    rw [if_pos ⟨by omega, by omega⟩, hA3H.out]
    rfl) ?_
  go_simp
  refine wpReads_step _ _ rfl rfl (by rintro _ ⟨X, rfl⟩; go_simp; exact rfl) ?_
  go_simp
  refine wpReads_nil ?_
  clear hwi hixc hA3H
  refine wpActs_step _ rfl (fun K1 hK1 => ?_)
  go_wp2_with fail
  refine (hB1H.out _ (below_drawn w3)).mono ?_
  rintro e w4 ⟨ta, F4, R4, H4, rfl, hpa, hqa, hga, hS4, hH4, hT4⟩
  rw [htl.out.1] at hS4 hH4
  have hT4H := Lib.hid ((Turn.below (F := F) (below_drawn w3)).trans hT4)
  have hcf4 := Lib.hid (hcf3H.out.turn hT4H.out)
  have hz4 : R4 0 = none := hga.zero rfl
  have hB2 := built13_at (c := c2 - (ix + 1)) hS4 hz4 (hdrH.out w4 F4 hcf4.out) (by rw [htl.out.2]; omega) (fun p hp => hszm.out p (List.mem_of_mem_drop hp)) (by rw [htl.out.2]; omega) (by rw [htl.out.2, hH4]; simp; omega) (by rw [htl.out.2]; omega) o2
  rw [htl.out.2] at hB2
  have hB2H := Lib.hid hB2
  have hpaH := Lib.hid hpa
  have hqaH := Lib.hid hqa
  have hgaH := Lib.hid hga
  have hH4H := Lib.hid hH4
  obtain ⟨n4, hrd4, -⟩ := hS4.rd
  have hral := BT.root_lt hga.at' hrd4
  clear hpa hqa hga hS4 hT4 hH4 hB2 hB1H hcf3H hdrH hz4 hrd4
  go_wp2
  refine hK1 _ _ ⟨⟨w4, F4, hT4H.out⟩, rfl⟩ ?_
  clear hK1 K1
  refine wpActs_step _ rfl (fun K2 hK2 => ?_)
  go_wp2_with fail
  refine hB2H.out.mono ?_
  rintro e w5 ⟨tb, F5, R5, H5, rfl, hpb, hqb, hgb, hS5, hH5, hT5⟩
  rw [htl.out.2] at hS5 hH5
  have hT5H := Lib.hid (hT4H.out.trans hT5)
  have hcf5 := hcf4.out.turn hT5
  have hpbH := Lib.hid hpb
  have hqbH := Lib.hid hqb
  have hgbH := Lib.hid hgb
  have hH5H : Hid (H5.length = 3 * (m.length - 1)) := Lib.hid (by rw [hH5, hH4H.out]; simp only [List.length_nil]; omega)
  obtain ⟨n5, hrd5, -⟩ := hS5.rd
  have hrbl := BT.root_lt hgb.at' hrd5
  have hLf := leaf13_at hS5 p hszp.1 hszp.2 (by omega) (by rw [hH5H.out]; omega) (by omega)
  have hLfH := Lib.hid hLf
  have hcf5H := Lib.hid hcf5
  clear hpb hqb hgb hS5 hT5 hH5 hB2H hcf4 hcf5 hrd5 hLf
  go_wp2
  refine hK2 _ _ ⟨⟨w5, F5, hT5H.out⟩, rfl⟩ ?_
  clear hK2 K2
  refine wpActs_step _ rfl (fun K3 hK3 => ?_)
  go_wp2
  refine hK3 _ _ ⟨⟨w5, F5, hT5H.out⟩, rfl⟩ ?_
  clear hK3 K3
  refine wpActs_step _ rfl (fun K4 hK4 => ?_)
  go_wp2
  refine hK4 _ _ ⟨⟨w5, F5, hT5H.out⟩, rfl⟩ ?_
  clear hK4 K4
  refine wpActs_nil ?_
  obtain ⟨bb, oo, hAs, q1, q2⟩ := hcf5H.out.pairs hix
  subst hAs
  rw [hpm.out] at q1 q2
  go_wp2_with fail
  refine hLfH.out.mono ?_
  rintro e w6 ⟨x, kx, vx, F6, R6, H6, rfl, hgm, hS6, hH6, hT6, hx64⟩
  have hT6H := Lib.hid (hT5H.out.trans hT6)
  have hcf6 := Lib.hid (hcf5H.out.turn hT6)
  obtain ⟨ga, gb, gn, gf, go⟩ := grow_three (m0 := 0) hgaH.out hgbH.out hgm
  have hh6 : Hid (H6.length = 3 * m.length) := Lib.hid (by rw [hH6, hH5H.out]; omega)
  have hz6 : R6 0 = none := (go 0 (fun e => (gf 0 e).2 rfl)).trans rfl
  have hsh6 : Short R6 := hgm.short (hgbH.out.short (hgaH.out.short (fun x ws e => by cases e)))
  have hAl := Lib.hid (sall_at hS6)
  have hgmH := Lib.hid hgm
  have hJ := Lib.hid (fun W (hb : Below w6.heap.size w6 W) => rbJoined_at (hS6.below hb) hz6 ga gb hqaH.out hqbH.out hgm.at' gn (by
    have sza : ta.size = ix := by rw [← BT.prs_len, hpaH.out, htl.out.1]
    have szb : tb.size = m.length - (ix + 1) := by rw [← BT.prs_len, hpbH.out, htl.out.2]
    omega))
  have hszab : Hid (ta.size + 1 + tb.size = m.length) := Lib.hid (by
    have sza : ta.size = ix := by rw [← BT.prs_len, hpaH.out, htl.out.1]
    have szb : tb.size = m.length - (ix + 1) := by rw [← BT.prs_len, hpbH.out, htl.out.2]
    omega)
  have hF6 : Hid (∀ b, F6 b → w.heap.size ≤ b) := Lib.hid (fun b hb => by
    rcases hT6H.out.grow b hb with h1 | h1
    · exact hF3H.out b h1
    · exact Nat.le_trans hb3H.out.size h1)
  have hF6l : Hid (∀ b, F6 b → b < w6.heap.size) := Lib.hid (fun b hb => hS6.lt hb)
  have hbw6 := Lib.hid (hb3H.out.trans (hT6H.out.to_below hb3H.out.size hF3H.out))
  obtain ⟨n6, hrd6, -⟩ := hS6.rd
  have hG6 := Lib.hid (fun W (hb : Below w6.heap.size w6 W) x hx => nget_at (hrd6.below hb) x hx)
  have hdom6 := Lib.hid hS6.dom
  have hu6 := Lib.hid (fun x (hx : R6 x ≠ none) => by
    obtain ⟨ws, h⟩ := Option.ne_none_iff_exists'.1 hx
    exact (hrd6.u64 h).1)
  have hx64' := hx64
  clear hgm hS6 hH6 hT6 ga gb gn gf go hz6 hsh6 hLfH q1 q2 hcf5H hH4H hH5H hT4H hT5H hrd6 hqaH hqbH hcf6 hrs hszm hpaH hpbH htl
  go_wp2_with fail
  refine hAl.out.mono ?_
  rintro e w7 ⟨v7, Hs, rfl, hpm7, hro7, hb7⟩
  obtain ⟨A7, c7, rfl⟩ := ownsRow_form hro7
  have hb7H := Lib.hid hb7
  have hHlen : Hid (Hs.length = 3 * m.length) := Lib.hid (by rw [hpm7.length_eq, hh6.out])
  have hH1 : Hs.length ≤ 180 := by have := hHlen.out; omega
  have hHlt : Hid (∀ y ∈ Hs, y < 18446744073709551616) := Lib.hid (fun y hy => hu6.out y ((hdom6.out y).1 (hpm7.mem_iff.1 hy)))
  have hrow7 : Hid (∀ i (hi : i < Hs.length), ∃ g, A7 = some ⟨g, 0, none⟩ ∧ ∀ W F', Turn w7 F6 W F' → W.cell? ⟨g, i, none⟩ = some (.int .u64 (Hs[i] : Nat))) := Lib.hid (fun i hi => row_off hro7 hF6l.out hi (by rw [List.getElem?_map, List.getElem?_eq_getElem hi]; rfl))
  clear hro7 hb7 hAl
  go_wp2_with fail
  go_loopw [17, 18] (fun lv iv wr => ∃ k : Nat, k ≤ Hs.length ∧ iv = .int .i64 k ∧ Hid (wr.ownsRow w7.heap.size 53 6 lv ((Hs.take k).map (nodeG R6)).length (ndsV ((Hs.take k).map (nodeG R6)))) ∧ Hid (Below w7.heap.size w7 wr)) (fun _ iv _ => Hs.length - (intOf iv).toNat)
  case atStart => exact ⟨0, by omega, rfl, Lib.hid (own_none _ _ _ _), Lib.hid (Below.refl _ _)⟩
  case round =>
    obtain ⟨k, hk, rfl, hown, hbr⟩ := hrel
    by_cases hlt : k < Hs.length
    · obtain ⟨g7, hA7, hc7⟩ := hrow7.out k hlt
      have hbr6 := Lib.hid (hb7H.out.trans (hbr.out.mono hb7H.out.size))
      have hc7' := hc7 wr F6 (Turn.below hbr.out)
      have hGk := hG6.out wr hbr6.out Hs[k] (hHlt.out _ (List.getElem_mem hlt))
      have htk : (Hs.take (k + 1)).map (nodeG R6) = (Hs.take k).map (nodeG R6) ++ [nodeG R6 Hs[k]] := by rw [List.take_succ_eq_append_getElem hlt, List.map_append]; rfl
      have hlk : ((Hs.take k).map (nodeG R6)).length ≤ 1000000 := by rw [List.length_map, List.length_take]; omega
      obtain ⟨y, hy⟩ : ∃ y, Hs[k] = y := ⟨_, rfl⟩
      simp only [hy] at hGk hc7' htk
      unfold nodeV Nd.v at hGk
      generalize nodeE R6 y = ee at *
      obtain ⟨nd, hnd⟩ : ∃ nd, nodeG R6 y = nd := ⟨_, rfl⟩
      rw [hnd] at hGk htk
      have htkH := Lib.hid htk
      have hGkH := Lib.hid hGk
      generalize (Hs.take k).map (nodeG R6) = xs at *
      subst hA7
      clear hGk htk hc7 hy hnd
      go_wp2_with fail
      refine hGkH.out.mono ?_
      rintro e w8 ⟨rfl, hb8⟩
      have hb8H := Lib.hid (hbr.out.trans (hb8.mono hbr.out.size))
      have hz8 := hb8H.out.size
      have hown8 := Lib.hid (ownN_keep hown.out hb8)
      clear hb8 hGkH hc7'
      go_wp2_with (at_builtin; go_must (refine app_nd rfl (.tmp 105) (.tmp 107) rfl _ w7.heap.size _ xs rfl ((hown8.out.alloc _).alloc _) (w8.heap.size + 1) nd rfl (fun j u hu => ?_) hlk (by simp; omega) ?_))
      · exact nd_new _ nd _ (by simp) _ j u hu
      intro v9 w9 hown9 hg9 _
      have hb9 := Lib.hid (ownN_below (((hb8H.out.alloc hz8 _).alloc (by simp; omega) _)) ((hown8.out.alloc _).alloc _) hg9 (by simp; omega))
      have hown9H : Hid (w9.ownsRow w7.heap.size 53 6 v9 ((Hs.take (k + 1)).map (nodeG R6)).length (ndsV ((Hs.take (k + 1)).map (nodeG R6)))) := Lib.hid (by rw [htkH.out, List.length_append]; exact hown9)
      clear hown9 hg9
      go_wp2
      go_roundw
      case rel => exact ⟨k + 1, by omega, by go_num, hown9H, hb9⟩
      case measure => simp [intOf]; omega
    · obtain rfl : k = Hs.length := by omega
      have hownF := hown.out
      rw [List.take_length] at hownF
      obtain ⟨A9, c9, rfl⟩ := ownN_form hownF
      have hlm : Hid ((Hs.map (nodeG R6)).length = Hs.length) := Lib.hid (List.length_map ..)
      have hbr6 := Lib.hid (hb7H.out.trans (hbr.out.mono hb7H.out.size))
      have hwas : Hid (∀ i (hi : i < Hs.length), ∃ g, A9 = some ⟨g, 0, none⟩ ∧ ∀ W F', Turn wr F6 W F' → W.cell? ⟨g, i * 6, none⟩ = some (.int .u64 ((nodeG R6 Hs[i]).key : Nat)) ∧ W.cell? ⟨g, i * 6 + 1, none⟩ = some (.int .u64 ((nodeG R6 Hs[i]).val : Nat))) := Lib.hid (fun i hi => by
        have h1 := nds_off hownF rfl (fun b hb => Nat.lt_of_lt_of_le (hF6l.out b hb) hb7H.out.size) (i := i) (by rw [hlm.out]; exact hi)
        rw [List.getElem_map] at h1
        exact h1)
      have hrow9 : Hid (∀ i (hi : i < Hs.length), ∃ g, A7 = some ⟨g, 0, none⟩ ∧ ∀ W F', Turn wr F6 W F' → W.cell? ⟨g, i, none⟩ = some (.int .u64 (Hs[i] : Nat))) := Lib.hid (fun i hi => by
        obtain ⟨g, h1, h2⟩ := hrow7.out i hi
        exact ⟨g, h1, fun W F' hW => h2 W F' ((Turn.below hbr.out).trans hW)⟩)
      have hbw9 := Lib.hid (hbw6.out.trans (hbr6.out.mono hbw6.out.size))
      rw [hlm.out]
      clear hownF hown hrow7
      go_wp2_with fail
      refine (hJ.out _ hbr6.out).mono ?_
      rintro e w11 ⟨t, R11, rfl, at', sim, ok, frame, hkn, ⟨-, heq⟩, hS11, hT11⟩
      have hT11H := Lib.hid hT11
      have hgo : GrowOut _ R11 t := GrowOut.joined (m0 := 0) hgaH.out hgbH.out hgmH.out at' sim frame
      have hz11 : R11 0 = none := hgo.zero rfl
      obtain ⟨n11, hrd11, -⟩ := hS11.rd
      have hG11 := Lib.hid (fun W (hb : Below w11.heap.size w11 W) x hx => nget_at (hrd11.below hb) x hx)
      have hHr := Lib.hid (trbBlack_at hrd11 hz11 at')
      have hAl := Lib.hid (fun W (hb : Below w11.heap.size w11 W) => sall_at (hS11.below hb))
      have hbw11 := Lib.hid (hbw9.out.trans (hT11.to_below hbw9.out.size hF6.out))
      have hTb11 := Lib.hid (hTH.out.below hbw11.out (tab_lt hTH.out))
      have hknH := Lib.hid hkn
      have hone : Hid (m.length = 1 → t.root = x ∧ t.bh = 0 ∧ t.red = true) := Lib.hid (fun h1 => by
        have e1 : ta = .nil := BT.size_nil (by have := hszab.out; omega)
        have e2 : tb = .nil := BT.size_nil (by have := hszab.out; omega)
        rw [e1, e2] at heq
        have e3 := heq rfl
        rw [e3]
        exact ⟨rfl, by simp [BT.bh, BT.red, BT.mk], by simp [BT.bh, BT.red, BT.mk]⟩)
      clear hgaH hgbH hgmH hgo at' sim ok frame hkn hS11 hT11 hrd11 hJ heq
      generalize t.bh = bb9 at *
      generalize t.red = rr9 at *
      generalize t.root = rt9 at *
      go_wp2_with fail
      refine hHr.out.mono ?_
      rintro e w13 ⟨rfl, hb13⟩
      have hb13H := Lib.hid hb13
      clear hb13 hHr
      go_wp2_with fail
      refine (hAl.out _ hb13H.out).mono ?_
      rintro e w12 ⟨v12, Hs2, rfl, hpm12, hro12, hb12⟩
      obtain ⟨A12, c12, rfl⟩ := ownsRow_form hro12
      have hlen2 : Hs2.length = Hs.length := by rw [hpm12.length_eq, hh6.out, hHlen.out]
      rw [hlen2]
      have hb12H := Lib.hid (hb13H.out.trans (hb12.mono hb13H.out.size))
      have e4 : ((Hs.length : Int) != (Hs.length : Int)) = false := by simp
      clear hb12 hro12 hAl hlen2 hpm12
      by_cases hm1 : m.length = 1
      · obtain ⟨rfl, rfl, rfl⟩ := hone.out hm1
        have dm1 : ((m.length : Int) == 1) = true := by rw [hm1]; rfl
        have e5 : ((rt9 : Int) != (rt9 : Int)) = false := by simp
        clear hone
        have hbr12 : Hid (Below w11.heap.size w12 w12) := Lib.hid (Below.refl _ _)
        go_wp2_with fail
        go_loopw [25] (fun iv wr => ∃ k : Nat, k ≤ Hs.length ∧ iv = .int .i64 k ∧ Hid (Below w11.heap.size w11 wr)) (fun iv _ => Hs.length - (intOf iv).toNat)
        case atStart => exact ⟨0, by omega, rfl, hb12H⟩
        case round =>
          obtain ⟨k, hk9, rfl, hb⟩ := hrel
          by_cases hlt : k < Hs.length
          · obtain ⟨g7, hA7, hc7⟩ := hrow9.out k hlt
            obtain ⟨g9, hA9, hc9⟩ := hwas.out k hlt
            have hTw := hT11H.out.trans (Turn.below (F := F6) hb.out)
            have hc7' := hc7 wr F6 (hTw)
            obtain ⟨hk1, hv1⟩ := hc9 wr F6 hTw
            have hGk := hG11.out wr hb.out Hs[k] (hHlt.out _ (List.getElem_mem hlt))
            obtain ⟨-, hkk, hkv⟩ := hknH.out Hs[k]
            obtain ⟨y, hy⟩ : ∃ y, Hs[k] = y := ⟨_, rfl⟩
            simp only [hy] at hGk hc7' hk1 hv1 hkk hkv
            unfold nodeV Nd.v at hGk
            generalize nodeE R11 y = ee at *
            rw [← hkk] at hk1
            rw [← hkv] at hv1
            obtain ⟨nd, hnd⟩ : ∃ nd, nodeG R11 y = nd := ⟨_, rfl⟩
            rw [hnd] at hGk hk1 hv1
            have hGkH := Lib.hid hGk
            have hk1H := Lib.hid hk1
            have hv1H := Lib.hid hv1
            subst hA7
            subst hA9
            clear hGk hc7 hc9 hy hnd hkk hkv hk1 hv1 hTw
            go_wp2_with fail
            refine hGkH.out.mono ?_
            rintro e w14 ⟨rfl, hb14⟩
            have hk2 := hb14.cell (p := ⟨g9, k * 6, none⟩) (cell_lt hk1H.out) |>.trans hk1H.out
            have hv2 := hb14.cell (p := ⟨g9, k * 6 + 1, none⟩) (cell_lt hv1H.out) |>.trans hv1H.out
            have hb14H := Lib.hid (hb.out.trans (hb14.mono hb.out.size))
            have hz14 := hb14H.out.size
            have hb14a : Below w14.heap.size w14 (w14.alloc (Obj.cells #[Value.int .u64 (nd.key : Nat), Value.int .u64 (nd.val : Nat), Value.int .u64 (nd.left : Nat), Value.int .u64 (nd.right : Nat), Value.int .u64 (nd.mark : Nat), Value.int .u64 (nd.size : Nat)] 53)) := (Below.refl _ w14).alloc (Nat.le_refl _) _
            have hk3 := hb14a.cell (p := ⟨g9, k * 6, none⟩) (cell_lt hk2) |>.trans hk2
            have hv3 := hb14a.cell (p := ⟨g9, k * 6 + 1, none⟩) (cell_lt hv2) |>.trans hv2
            have hb15H := Lib.hid (hb14H.out.alloc hz14 (Obj.cells #[Value.int .u64 (nd.key : Nat), Value.int .u64 (nd.val : Nat), Value.int .u64 (nd.left : Nat), Value.int .u64 (nd.right : Nat), Value.int .u64 (nd.mark : Nat), Value.int .u64 (nd.size : Nat)] 53))
            clear hb14 hb14a hk2 hv2 hGkH hc7'
            go_wp2
            go_quiet (fail)
            go_wp2
            go_roundw
            case rel => exact ⟨k + 1, by omega, by go_num, Lib.hid (hb15H.out.trans ((Tx.drewN_below _ _).mono hb15H.out.size))⟩
            case measure => simp [intOf]; omega
          · obtain rfl : k = Hs.length := by omega
            have hAw := Lib.hid (awake13_at (hTb11.out.below hb.out (tab_lt hTb11.out)))
            go_wp2_with fail
            refine hAw.out.mono ?_
            rintro e w15 ⟨rfl, hb15⟩
            have hb15H := Lib.hid (hbw11.out.trans ((hb.out.trans (hb15.mono hb.out.size)).mono hbw11.out.size))
            clear hb15
            go_wp2
            go_ret
            exact ⟨rfl, hb15H.out⟩
      · have dm1 : ((m.length : Int) == 1) = false := beq_eq_false_iff_ne.2 (by omega)
        clear hone
        have hbr12 : Hid (Below w11.heap.size w12 w12) := Lib.hid (Below.refl _ _)
        go_wp2_with fail
        go_loopw [25] (fun iv wr => ∃ k : Nat, k ≤ Hs.length ∧ iv = .int .i64 k ∧ Hid (Below w11.heap.size w11 wr)) (fun iv _ => Hs.length - (intOf iv).toNat)
        case atStart => exact ⟨0, by omega, rfl, hb12H⟩
        case round =>
          obtain ⟨k, hk9, rfl, hb⟩ := hrel
          by_cases hlt : k < Hs.length
          · obtain ⟨g7, hA7, hc7⟩ := hrow9.out k hlt
            obtain ⟨g9, hA9, hc9⟩ := hwas.out k hlt
            have hTw := hT11H.out.trans (Turn.below (F := F6) hb.out)
            have hc7' := hc7 wr F6 (hTw)
            obtain ⟨hk1, hv1⟩ := hc9 wr F6 hTw
            have hGk := hG11.out wr hb.out Hs[k] (hHlt.out _ (List.getElem_mem hlt))
            obtain ⟨-, hkk, hkv⟩ := hknH.out Hs[k]
            obtain ⟨y, hy⟩ : ∃ y, Hs[k] = y := ⟨_, rfl⟩
            simp only [hy] at hGk hc7' hk1 hv1 hkk hkv
            unfold nodeV Nd.v at hGk
            generalize nodeE R11 y = ee at *
            rw [← hkk] at hk1
            rw [← hkv] at hv1
            obtain ⟨nd, hnd⟩ : ∃ nd, nodeG R11 y = nd := ⟨_, rfl⟩
            rw [hnd] at hGk hk1 hv1
            have hGkH := Lib.hid hGk
            have hk1H := Lib.hid hk1
            have hv1H := Lib.hid hv1
            subst hA7
            subst hA9
            clear hGk hc7 hc9 hy hnd hkk hkv hk1 hv1 hTw
            go_wp2_with fail
            refine hGkH.out.mono ?_
            rintro e w14 ⟨rfl, hb14⟩
            have hk2 := hb14.cell (p := ⟨g9, k * 6, none⟩) (cell_lt hk1H.out) |>.trans hk1H.out
            have hv2 := hb14.cell (p := ⟨g9, k * 6 + 1, none⟩) (cell_lt hv1H.out) |>.trans hv1H.out
            have hb14H := Lib.hid (hb.out.trans (hb14.mono hb.out.size))
            have hz14 := hb14H.out.size
            have hb14a : Below w14.heap.size w14 (w14.alloc (Obj.cells #[Value.int .u64 (nd.key : Nat), Value.int .u64 (nd.val : Nat), Value.int .u64 (nd.left : Nat), Value.int .u64 (nd.right : Nat), Value.int .u64 (nd.mark : Nat), Value.int .u64 (nd.size : Nat)] 53)) := (Below.refl _ w14).alloc (Nat.le_refl _) _
            have hk3 := hb14a.cell (p := ⟨g9, k * 6, none⟩) (cell_lt hk2) |>.trans hk2
            have hv3 := hb14a.cell (p := ⟨g9, k * 6 + 1, none⟩) (cell_lt hv2) |>.trans hv2
            have hb15H := Lib.hid (hb14H.out.alloc hz14 (Obj.cells #[Value.int .u64 (nd.key : Nat), Value.int .u64 (nd.val : Nat), Value.int .u64 (nd.left : Nat), Value.int .u64 (nd.right : Nat), Value.int .u64 (nd.mark : Nat), Value.int .u64 (nd.size : Nat)] 53))
            clear hb14 hb14a hk2 hv2 hGkH hc7'
            go_wp2
            go_quiet (fail)
            go_wp2
            go_roundw
            case rel => exact ⟨k + 1, by omega, by go_num, Lib.hid (hb15H.out.trans ((Tx.drewN_below _ _).mono hb15H.out.size))⟩
            case measure => simp [intOf]; omega
          · obtain rfl : k = Hs.length := by omega
            have hAw := Lib.hid (awake13_at (hTb11.out.below hb.out (tab_lt hTb11.out)))
            go_wp2_with fail
            refine hAw.out.mono ?_
            rintro e w15 ⟨rfl, hb15⟩
            have hb15H := Lib.hid (hbw11.out.trans ((hb.out.trans (hb15.mono hb.out.size)).mono hbw11.out.size))
            clear hb15
            go_wp2
            go_ret
            exact ⟨rfl, hb15H.out⟩
end Go.Proofs.YtjpmlneihbckpaaGreatDoor

/-
  The seat's own texts, what BtreeFinds wants besides: Laid, Open, Bf5.
-/
import Derived.Test.YtjcpclcmnhpgpaaGreatDoorFMxt
import Derived.Test.YtjcpclcmnhpgpaaGreatDoorRows
import Derived.ProofKit
import Derived.LaidMore
import Derived.OpenShut
import Derived.ShutString
import Derived.ChangeOld
import Derived.Stop.Joined
import Derived.Deep.Slices
import Derived.Deep.Fields
import Derived.ChangeSame
import Derived.Deep.SlicePairs
import Derived.ChangeSlices

set_option linter.unusedVariables false
set_option linter.unusedSimpArgs false
namespace Go.Proofs.YtjcpclcmnhpgpaaGreatDoor
open Go.ChangeShapes Go.WideShapes Go.ChangeAt Go.WideMaps Go.WideElems Go.RowKit Go.Deep
theorem own : ownKnob Tryz.prog.godebug = none := by kernel_rfl
theorem laidOut : laidOutB Tryz.prog = true := by kernel_rfl
theorem gTab : Tryz.prog.globalNamed "math/bits.deBruijn64tab" = some 1 := by kernel_rfl
theorem tTab : (Tryz.prog.globals[1]?).map (·.type) = some 244 := by kernel_rfl
abbrev laidL : List (String × DataW Unit) := [("math/bits.deBruijn64tab", Rows.laid_math_bits_deBruijn64tab)]
theorem laid_list : (Rows.laid_math_bits_deBruijn64tab : DataW Unit) = .agg (Lib.deBruijn64tab.map fun n => .lit (.int .u8 (n : Nat))) := rfl
theorem door_met (os : Os) (args : Array Value) : laidMetH Tryz.prog laidL ((World.doorLaid Tryz.prog 400 os).forCall (fun _ _ => 0) ⟨#[], args, []⟩).memory :=
  laidMetH_of_parts3 (fuel := 8) (laidMet_of_run' 8 (by kernel_rfl) (by kernel_rfl)) (by kernel_rfl) (by kernel_rfl)
theorem of_laid {W : World} (h : laidMetH Tryz.prog laidL W) : Tab W := by
  rw [MakeChecks.laidMetH_plain _ _ _ (by kernel_rfl)] at h
  obtain ⟨ps, ⟨g0, t0, cs0, f0, p0, q0, hg0, ht0, hv0, hd0, _⟩, _⟩ := h
  obtain rfl := Option.some.inj (gTab.symm.trans hg0)
  obtain rfl := Option.some.inj (tTab.symm.trans ht0)
  obtain ⟨xs, m1, rfl, hx1, hlen, hn, hel⟩ := DataW.trod_array Tryz.underlying244 hd0
  have c5 : Tryz.prog.cellsOf 5 = 1 := by kernel_rfl
  simp only [Prod.mk.injEq] at hx1
  rw [laid_list] at hx1
  have hmap : xs.map (·.1) = Lib.deBruijn64tab.map fun n => DataW.lit (Lit.int .u8 (n : Nat)) := by
    have := hx1.1
    simp only [DataW.agg.injEq] at this
    exact this.symm
  intro j hj
  have hj64 : j < 64 := hj
  have hjx : j < xs.length := by omega
  have h0 := hel j hj64
  rw [List.getElem?_eq_getElem hjx, c5, Nat.mul_one] at h0
  obtain ⟨k, e1, e2, _⟩ := DataW.trod_int Tryz.underlying5 h0
  have h3 : (xs.map (·.1))[j]? = some (.lit (.int .u8 (Lib.deBruijn64tab.getD j 0 : Nat))) := by
    rw [hmap, List.getElem?_map, List.getElem?_eq_getElem hj]
    simp [List.getD_eq_getElem?_getD, List.getElem?_eq_getElem hj]
  rw [List.getElem?_map, List.getElem?_eq_getElem hjx, e2] at h3
  simp only [Option.map_some, Option.some.injEq, DataW.lit.injEq, Lit.int.injEq, true_and] at h3
  subst h3
  have hc := World.var?_cell hg0 hv0 j
  rw [hc]
  have hd : cs0.toList[j]? = some (.int .u8 (Lib.deBruijn64tab.getD j 0 : Nat)) := by
    have h5 : ((cs0.toList.drop j).take 1)[0]? = some (.int .u8 (Lib.deBruijn64tab.getD j 0 : Nat)) := by rw [e1]; rfl
    rw [List.getElem?_take, if_pos (by omega), List.getElem?_drop, Nat.add_zero] at h5
    exact h5
  simpa using hd
end Go.Proofs.YtjcpclcmnhpgpaaGreatDoor

set_option linter.unusedVariables false
set_option linter.unusedSimpArgs false
namespace Go.Proofs.YtjcpclcmnhpgpaaGreatDoor
open Go.ChangeShapes Go.WideShapes Go.ChangeAt Go.WideMaps Go.WideElems Go.RowKit Go.Deep
theorem int_bound {n : Int} (h : (Lit.int .i64 n).wf = true) : -9223372036854775808 ≤ n ∧ n ≤ 9223372036854775807 := by
  simpa [Lit.wf, IntKind.min, IntKind.max, IntKind.signed, IntKind.bits] using h
theorem prsV_inv : ∀ {l : List Pr} {j : Nat} {u : Value}, (prsV l)[j]? = some u → ∃ (i : Nat) (hi : i < l.length), (j = i * 2 ∧ u = .string l[i].1) ∨ (j = i * 2 + 1 ∧ u = .string l[i].2)
  | [], j, u, h => by simp [prsV] at h
  | p :: l, 0, u, h => by simp [prsV] at h; exact ⟨0, by simp, .inl ⟨rfl, h.symm⟩⟩
  | p :: l, 1, u, h => by simp [prsV] at h; exact ⟨0, by simp, .inr ⟨rfl, h.symm⟩⟩
  | p :: l, j + 2, u, h => by
    obtain ⟨i, hi, hh⟩ := prsV_inv (l := l) (j := j) (u := u) (by simpa [prsV] using h)
    refine ⟨i + 1, by simpa using hi, ?_⟩
    rcases hh with ⟨h1, h2⟩ | ⟨h1, h2⟩
    · exact .inl ⟨by omega, h2⟩
    · exact .inr ⟨by omega, h2⟩
theorem addr_add (b o j : Nat) : (⟨b, o, none⟩ : Addr).add j = ⟨b, o + j, none⟩ := by unfold Addr.add; split <;> simp_all
section
variable {H : Type} {enc : TypeId × Value → H} {w : World} {base : Nat} {held : Bool}
theorem open_prs {fuel : Nat} {cs : List Value} {x : DataW H × List MemPlace} (h : DataW.trod enc Tryz.prog w base (fun _ => true) held fuel 22 cs = some x) : ∃ A len cap l, cs = [.slice A len cap] ∧ len = l.length ∧ ILaw w A l := by
  rcases open_slice_pairs Tryz.underlying22 Tryz.underlying37 (by kernel_rfl) rfl rfl (by kernel_rfl) (by kernel_rfl) h with ⟨hcs, _⟩ | ⟨a, len, cap, m, n, V0, V1, D0, D1, P0, P1, hcs, hb, hl, hm, hmm, _, hx⟩
  · exact ⟨none, 0, 0, [], hcs, rfl, .inl rfl, fun p hp => by simp at hp, by simp⟩
  · have hmc : m = cap := by simpa using hmm
    subst hmc
    have hS : ∀ i, ∃ p : Pr, i < m → V0 i = .string p.1 ∧ V1 i = .string p.2 ∧ p.1.size ≤ maxLen ∧ p.2.size ≤ maxLen := fun i => by
      by_cases hi : i < m
      · obtain ⟨h1, h2, h3, h4⟩ := hx i hi
        obtain ⟨s0, e0, _, z0⟩ := DataW.trod_string Tryz.underlying9 h3
        obtain ⟨s1, e1, _, z1⟩ := DataW.trod_string Tryz.underlying9 h4
        exact ⟨(s0, s1), fun _ => ⟨by simpa using e0, by simpa using e1, z0, z1⟩⟩
      · exact ⟨(⟨#[]⟩, ⟨#[]⟩), fun hh => absurd hh hi⟩
    obtain ⟨f, hf⟩ := Classical.axiomOfChoice hS
    have hll : ((List.range len).map f).length = len := by simp
    unfold maxLen at hm
    refine ⟨some a, len, m, (List.range len).map f, hcs, hll.symm, ?_, ?_, by rw [hll]; omega⟩
    · by_cases h0 : len = 0
      · subst h0; exact .inl rfl
      · obtain ⟨b, off, spot⟩ := a
        have hc0 := (hx 0 (by omega)).1
        have hspot : spot = none := by simpa [Addr.add] using World.cell?_spot hc0
        subst hspot
        have hbl := World.block_lt_of_cell? _ _ hc0
        rw [addr_add] at hbl
        refine .inr ⟨b, off, rfl, hbl, by show ¬ w.heap.size ≤ b; simp only at hbl; omega, fun j u hu => ?_⟩
        obtain ⟨i, hi, hh⟩ := prsV_inv hu
        have hil : i < len := by omega
        obtain ⟨c0, c1, _, _⟩ := hx i (by omega)
        obtain ⟨g0, g1, _, _⟩ := hf i (by omega)
        rw [addr_add] at c0 c1
        have hget : ((List.range len).map f)[i] = f i := by simp
        rcases hh with ⟨rfl, rfl⟩ | ⟨rfl, rfl⟩
        · rw [c0, g0, hget]
        · rw [c1, g1, hget]
    · intro p hp
      obtain ⟨i, hi, rfl⟩ := List.mem_map.1 hp
      have hil : i < len := by simpa using hi
      obtain ⟨_, _, z0, z1⟩ := hf i (by omega)
      unfold maxLen at z0 z1
      exact ⟨z0, z1⟩
end
end Go.Proofs.YtjcpclcmnhpgpaaGreatDoor

set_option linter.unusedVariables false
set_option linter.unusedSimpArgs false
namespace Go.Proofs.YtjcpclcmnhpgpaaGreatDoor
open Go.RowKit Go.Shelf
set_option maxHeartbeats 2000000 in
set_option maxRecDepth 100000 in
theorem finds16_0 {w : World} (hT : Tab w) (t : Int) (l : List Pr) (A : Option Addr) (c : Nat) (key : ByteArray) (k : Int) (h : ILaw w A l) (hk2 : key.size ≤ 9223372036854775807) (hg : t < 2 ∨ 16 < t ∨ 100 < l.length ∨ longL l = true ∨ 2000 < key.size) :
    Calls Tryz.prog 3 #[.int .i64 t, .slice A l.length c, .string key, .int .i64 k] w (TrueB w) := by
  have hA := Lib.hid (awake16_at hT)
  have hL := refLong_at (c := c) h.1.prs h.2.2 h.2.1
  have hLH := Lib.hid hL
  have z1 := h.2.2
  clear hT h hL
  unfold TrueB
  by_cases q1 : t < 2
  · have d1 : decide (t < 2) = true := decide_eq_true q1
    clear hg
    go_enter Tryz.func3, Tryz.ntmps3
    go_wp2_with fail
    refine hA.out.mono ?_
    rintro e w9 ⟨rfl, hb9⟩
    have hb9H := Lib.hid hb9
    clear hb9
    go_wp2
    go_ret
    exact ⟨rfl, hb9H.out⟩
  · have d1 : decide (t < 2) = false := decide_eq_false q1
    by_cases q2 : 16 < t
    · have d2 : decide (16 < t) = true := decide_eq_true q2
      clear hg
      go_enter Tryz.func3, Tryz.ntmps3
      go_wp2_with fail
      refine hA.out.mono ?_
      rintro e w9 ⟨rfl, hb9⟩
      have hb9H := Lib.hid hb9
      clear hb9
      go_wp2
      go_ret
      exact ⟨rfl, hb9H.out⟩
    · have d2 : decide (16 < t) = false := decide_eq_false q2
      by_cases q3 : (100 : Int) < (l.length : Int)
      · have d3 : decide ((100 : Int) < (l.length : Int)) = true := decide_eq_true q3
        clear hg
        go_enter Tryz.func3, Tryz.ntmps3
        go_wp2_with fail
        refine hA.out.mono ?_
        rintro e w9 ⟨rfl, hb9⟩
        have hb9H := Lib.hid hb9
        clear hb9
        go_wp2
        go_ret
        exact ⟨rfl, hb9H.out⟩
      · have d3 : decide ((100 : Int) < (l.length : Int)) = false := decide_eq_false q3
        by_cases q4 : longL l = true
        · rw [q4] at hLH
          clear hg q4
          go_enter Tryz.func3, Tryz.ntmps3
          go_wp2_with fail
          refine hLH.out.mono ?_
          rintro e w0 ⟨rfl, rfl⟩
          go_wp2_with fail
          refine hA.out.mono ?_
          rintro e w9 ⟨rfl, hb9⟩
          have hb9H := Lib.hid hb9
          clear hb9
          go_wp2
          go_ret
          exact ⟨rfl, hb9H.out⟩
        · have q5 : longL l = false := by simpa using q4
          rw [q5] at hLH
          have q6 : (2000 : Int) < (key.size : Int) := by
            rcases hg with h9 | h9 | h9 | h9 | h9
            · omega
            · omega
            · omega
            · exact absurd h9 q4
            · omega
          have d6 : decide ((2000 : Int) < (key.size : Int)) = true := decide_eq_true q6
          clear hg q4 q5
          go_enter Tryz.func3, Tryz.ntmps3
          go_wp2_with fail
          refine hLH.out.mono ?_
          rintro e w0 ⟨rfl, rfl⟩
          go_wp2_with fail
          refine hA.out.mono ?_
          rintro e w9 ⟨rfl, hb9⟩
          have hb9H := Lib.hid hb9
          clear hb9
          go_wp2
          go_ret
          exact ⟨rfl, hb9H.out⟩
set_option maxHeartbeats 8000000 in
set_option maxRecDepth 100000 in
theorem finds16_main {w : World} (hT : Tab w) (t : Nat) (ht : BN.Deg t) (l : List Pr) (A : Option Addr) (c : Nat) (key : ByteArray) (k : Int) (h : ILaw w A l) (hl : l.length ≤ 100) (hlong : longL l = false) (hk : key.size ≤ 2000) :
    Calls Tryz.prog 3 #[.int .i64 (t : Nat), .slice A l.length c, .string key, .int .i64 k] w (TrueB w) := by
  have hL := refLong_at (c := c) h.1.prs h.2.2 h.2.1
  rw [hlong] at hL
  have hLH := Lib.hid hL
  have t1 := ht.1
  have t2 := ht.2
  have d1 : decide ((t : Int) < 2) = false := decide_eq_false (by omega)
  have d2 : decide ((16 : Int) < (t : Int)) = false := decide_eq_false (by omega)
  have d3 : decide ((100 : Int) < (l.length : Int)) = false := decide_eq_false (by omega)
  have d6 : decide ((2000 : Int) < (key.size : Int)) = false := decide_eq_false (by omega)
  have hN := Lib.hid (snew_at hT 262144 1000 4294967295 (by omega) (by omega) (by omega) (by omega) (by omega))
  have hTH := Lib.hid hT
  have hsl := sortedL_len l
  have hsz := Lib.hid (sized_of hlong)
  have hszd := Lib.hid h.2.1.sorted
  have hsz0 := Lib.hid h.2.1
  have hcA := Lib.hid h.1
  have hPA := Lib.hid h.1.prs
  have htH := Lib.hid ht
  clear hT h hL hlong ht
  unfold TrueB
  go_enter Tryz.func3, Tryz.ntmps3
  go_wp2_with fail
  refine hLH.out.mono ?_
  rintro e w0 ⟨rfl, rfl⟩
  go_wp2_with fail
  refine hN.out.mono ?_
  rintro e w1 ⟨s, F, rfl, hS, hs1, hF1, hb1⟩
  have hb1H := Lib.hid hb1
  have hF1H := Lib.hid hF1
  have hcf1 := Lib.hid (Ints_off hcA.out hb1 hF1 hb1.size)
  have hSt1 : Hid (BtIn w1 s F (fun _ => none) [] 0 262144 1000 4294967295 0 t 0 [] [] 0 0) := Lib.hid (BtIn.start hS t)
  clear hb1 hF1 hS hN hLH
  go_wp2_with fail
  go_loopw [11, 12] (fun rv iv wr => ∃ (i root : Nat) (its : List It) (ns : List Nat) (hg : Nat) (F' : Nat → Prop) (R' : Nat → Option (List Nat)) (H' : List Nat) (m : Nat), i ≤ l.length ∧ iv = .int .i64 i ∧ rv = .int .u64 (root : Nat) ∧ Hid (BtIn wr s F' R' H' (6 * i + 2 * ns.length) 262144 1000 4294967295 (2 * i + ns.length) t root its ns hg m) ∧ Hid (2 * its.length + m = 2 * i) ∧ Hid (Bt.prs its = sortedL (l.take i)) ∧ Hid (Turn w1 F wr F')) (fun _ iv _ => l.length - (intOf iv).toNat)
  case atStart => exact ⟨0, 0, [], [], 0, F, _, [], 0, by omega, rfl, rfl, by simpa using hSt1, Lib.hid rfl, Lib.hid rfl, Lib.hid (Turn.refl _ _)⟩
  case round =>
    obtain ⟨i, root, its, ns, hg, F', R', H', m, hi, rfl, rfl, hst, hm, hpr, hT'⟩ := hrel
    by_cases hlt : i < l.length
    · --< round
      as_aux_lemma =>
      obtain ⟨bb, oo, hAs, q1, q2⟩ := (hcf1.out.turn hT'.out).pairs hlt
      have hlp := hsz.out l[i] (List.getElem_mem hlt)
      have hsn := sortedL_snoc l i hlt
      obtain ⟨p, hp⟩ : ∃ p, l[i] = p := ⟨_, rfl⟩
      rw [hp] at hlp hsn
      simp only [hp] at q1 q2
      have hlk : its.length ≤ i := by have := hm.out; omega
      have hI := Lib.hid (item16_at hst.out p hlp.1 hlp.2)
      have hsnH := Lib.hid hsn
      have hlkH := Lib.hid hlk
      subst hAs
      clear hp hlk hsn hlp
      go_wp2_with fail
      refine hI.out.mono ?_
      intro e w3 hR
      have hlen := hst.out.len
      have hnsle := hst.out.tr.ns_le htH.out
      have hhg := hst.out.tr.hg_le htH.out (by have := hlkH.out; omega)
      have hmm := hm.out
      cases hR with
      | no hb hT hl hbad =>
        exfalso
        have h3 := hlkH.out
        omega
      | @ok _ it R3 F3 H3 hik hiv hb hi hnd hT h64 hl3 hold =>
        obtain ⟨W4, hW4⟩ : ∃ W, W = w3.alloc (Obj.cells #[.int .u64 (it.kh : Nat), .int .u64 (it.vh : Nat)] 33) := ⟨_, rfl⟩
        have hb34 : Below w3.heap.size w3 W4 := by rw [hW4]; exact (Below.refl _ w3).alloc (Nat.le_refl _) _
        have hb := hb.below hb34
        have hIn := hb.insert_at htH.out it hi (by omega) hnd (by have := hlkH.out; omega) h64
        have hInH := Lib.hid hIn
        have hT3 := Lib.hid ((hT'.out.trans hT).trans (Turn.below hb34))
        have hbH := Lib.hid hb
        have hikH := Lib.hid (And.intro hik hiv)
        have hnums := Lib.hid (And.intro hlen (And.intro hnsle (And.intro hhg (And.intro hmm hl3))))
        obtain ⟨kh, hkh⟩ : ∃ z, z = it.kh := ⟨_, rfl⟩
        obtain ⟨vh, hvh⟩ : ∃ z, z = it.vh := ⟨_, rfl⟩
        rw [← hkh, ← hvh] at hInH hW4 ⊢
        have hW4H := Lib.hid hW4
        clear hW4 hb34 hI hb hT hIn hik hiv hnd hi h64 hold q1 q2 hkh hvh hlen hnsle hhg hmm hl3
        go_wp2_with fail
        rw [← hW4H.out]
        refine hInH.out.mono ?_
        intro e w4 hR4
        have hitp : Hid (it.pr = p) := Lib.hid (by show (it.k, it.v) = p; rw [hikH.out.1, hikH.out.2])
        cases hR4 with
        | @here _ old R4 hf hb4 ho hT4 =>
          obtain ⟨oa, hoa⟩ : ∃ z, z = old.kh := ⟨_, rfl⟩
          obtain ⟨ob, hob⟩ : ∃ z, z = old.vh := ⟨_, rfl⟩
          rw [← hoa, ← hob]
          have hbA4 : Below w4.heap.size w4 (w4.alloc (Obj.cells #[.int .u64 (oa : Nat), .int .u64 (ob : Nat)] 33)) := (Below.refl _ w4).alloc (Nat.le_refl _) _
          have hb4H := Lib.hid ((hb4.more (P' := 6 * (i + 1) + 2 * ns.length) (G' := 2 * (i + 1) + ns.length) (by omega) (by omega)).below hbA4)
          have hpr4 : Hid (Bt.prs (Bt.setI its it) = sortedL (l.take (i + 1))) := Lib.hid (by rw [Bt.setI_prs hbH.out.ow.rise hf, hpr.out, hsnH.out, hitp.out])
          have hm4 : Hid (2 * (Bt.setI its it).length + (m + 2) = 2 * (i + 1)) := Lib.hid (by rw [Bt.setI_len]; have := hm.out; omega)
          have hT4H := Lib.hid ((hT3.out.trans hT4).trans (Turn.below hbA4))
          clear hb4 hbA4 hT4 hf hInH ho hoa hob
          go_wp2
          go_roundw
          case rel => exact ⟨i + 1, root, _, ns, hg, F3, R4, H3, m + 2, by omega, by go_num, rfl, hb4H, hm4, hpr4, hT4H⟩
          case measure => simp [intOf]; omega
        | full hf hn he _ _ _ =>
          exfalso
          obtain ⟨h1, h2, h3, h4, h5⟩ := hnums.out
          have h6 := hlkH.out
          omega
        | @put _ now n R4 F4 H4 ns' hg' hf hl4 hn hb4 hT4 =>
          have hbA4 : Below w4.heap.size w4 (w4.alloc (Obj.cells #[.int .u64 0, .int .u64 0] 33)) := (Below.refl _ w4).alloc (Nat.le_refl _) _
          have hb4H := Lib.hid ((hb4.more (P' := 6 * (i + 1) + 2 * ns'.length) (G' := 2 * (i + 1) + ns'.length) (by omega) (by omega)).below hbA4)
          have hpr4 : Hid (Bt.prs (Bt.putI its it) = sortedL (l.take (i + 1))) := Lib.hid (by rw [Bt.putI_prs hbH.out.ow.rise hf, hpr.out, hsnH.out, hitp.out])
          have hm4 : Hid (2 * (Bt.putI its it).length + (m + 2 - 2) = 2 * (i + 1)) := Lib.hid (by rw [Bt.putI_len]; have := hm.out; omega)
          have hT4H := Lib.hid ((hT3.out.trans hT4).trans (Turn.below hbA4))
          clear hb4 hbA4 hT4 hf hInH
          go_wp2
          go_roundw
          case rel => exact ⟨i + 1, now, _, ns', hg', F4, R4, H4, m + 2 - 2, by omega, by go_num, rfl, hb4H, hm4, hpr4, hT4H⟩
          case measure => simp [intOf]; omega
      --> round
    · obtain rfl : i = l.length := by omega
      rw [List.take_length] at hpr
      have hil : its.length ≤ 100 := by have := hm.out; omega
      have hbw := Lib.hid (hb1H.out.trans (hT'.out.to_below hb1H.out.size hF1H.out))
      have hstH := Lib.hid hst.out
      have hprH := Lib.hid hpr.out
      have hilH := Lib.hid hil
      have hSo := Lib.hid (refSorted_at (c := c) (hPA.out.below hbw.out) hbw.out.size (by omega) hsz0.out)
      have hTw := Lib.hid (hTH.out.below hbw.out (tab_lt hTH.out))
      clear hst hpr hm hT' hil hlt hi hSt1 hcf1 hcA
      go_wp2_with fail
      refine hSo.out.mono ?_
      rintro e w2 ⟨v, rfl, hrow, hb2⟩
      obtain ⟨A2, c2, rfl, hA2, hc2, hP2⟩ := own_pairs hrow rfl
      have hcf : CellsF w2 (fun _ => False) A2 (prsV (sortedL l)) := by
        rcases hP2 with h | ⟨b, o, h1, h2, h3⟩
        · rw [h]; exact .inl rfl
        · exact .inr ⟨b, o, h1, h2, fun h => h, h3⟩
      have hb2H := Lib.hid hb2
      have hcf2 := Lib.hid hcf
      generalize sortedL l = mm at *
      have hst2 := Lib.hid (hstH.out.below hb2)
      clear hrow hP2 hA2 hc2 hb2 hcf hSo
      have hT2 := Lib.hid (hTw.out.below hb2H.out (tab_lt hTw.out))
      have hrr := Lib.hid (fun W (hb : Below w2.heap.size w2 W) => refRank_at (c := c2) (hcf2.out.prs.below hb) hb.size (by omega) hszd.out key (by omega))
      have hrf := Lib.hid (fun W (hb : Below w2.heap.size w2 W) => refFind_at (c := c2) (hcf2.out.prs.below hb) hb.size (by omega) hszd.out key (by omega))
      have hFd := fun W (hb : Below w2.heap.size w2 W) => (hst2.out.below hb).find_at htH.out (by have := hilH.out; omega) key
      have hRk := Lib.hid (fun W (hb : Below w2.heap.size w2 W) => (hst2.out.below hb).rank_at htH.out (by have := hilH.out; omega) key)
      have hAt := fun W (hb : Below w2.heap.size w2 W) => (hst2.out.below hb).at_at htH.out (by have := hilH.out; omega) k
      have hPr := Lib.hid (fun W (hb : Below w2.heap.size w2 W) (it : It) (hi : it ∈ its) => by
        obtain ⟨N9, hr9, _⟩ := (hst2.out.below hb).st.rd
        exact pair16_at hr9 hst2.out.sh (hst2.out.ow.at' it hi))
      have hAw := Lib.hid (fun W (hb : Below w2.heap.size w2 W) => awake16_at (hT2.out.below hb (tab_lt hT2.out)))
      rw [hprH.out] at hRk
      have hlm : its.length = mm.length := by rw [← hprH.out, Bt.prs_len]
      have hfh := Bt.findI_has (key := key) hstH.out.ow.rise
      rw [hprH.out] at hfh
      have hfhH := Lib.hid hfh
      clear hfh
      have hget : Hid (∀ j (hj : j < mm.length) (hj2 : j < its.length), mm[j] = (its[j].k, its[j].v)) := Lib.hid fun j hj hj2 => by
        have h9 : mm = its.map It.pr := hprH.out.symm
        subst h9
        rw [List.getElem_map]
        rfl
      go_wp2_with fail
      refine (hrf.out _ (Below.refl _ _)).mono ?_
      rintro e w3 ⟨rfl, hb3⟩
      have hb3H := Lib.hid hb3
      clear hb3
      go_wp2_with fail
      cases hfi : Bt.findI its key with
      | some i0 =>
        --< some
        as_aux_lemma =>
        have hfh := hfhH.out
        rw [hfi] at hfh
        simp only [hfi, Option.map_some, Option.isSome_some, itV] at hFd
        simp only [Option.isSome_some, if_true] at hfh
        obtain ⟨hfl, hfg⟩ := hfh
        obtain ⟨hg1, hg2⟩ := hfg i0 rfl
        obtain ⟨hrl, hg3⟩ := List.getElem?_eq_some_iff.1 hg1
        have hmem : i0 ∈ its := by rw [← hg3]; exact List.getElem_mem hrl
        have hrl2 : rankL mm key < mm.length := by omega
        have hq := fun W (hb : Below w2.heap.size w2 W) => (hcf2.out.turn (Turn.below hb)).pairs hrl2
        simp only [hget.out _ hrl2 hrl, hg3] at hq
        have hPr1 := fun W hb => hPr.out W hb i0 hmem
        obtain ⟨a1, ha1⟩ : ∃ z, z = i0.kh := ⟨_, rfl⟩
        obtain ⟨b1, hb1'⟩ : ∃ z, z = i0.vh := ⟨_, rfl⟩
        obtain ⟨pk, hpk⟩ : ∃ z, z = i0.k := ⟨_, rfl⟩
        obtain ⟨pv, hpv⟩ : ∃ z, z = i0.v := ⟨_, rfl⟩
        simp only [← ha1, ← hb1', ← hpk, ← hpv] at hFd hPr1 hq
        have hFdH := Lib.hid (hFd _ hb3H.out)
        have hPr1H := Lib.hid hPr1
        have hqH := Lib.hid hq
        rw [hfl]
        generalize rankL mm key = r at *
        clear hfi hfl hfg hg1 hg2 hg3 hmem hFd hPr1 hq ha1 hb1' hpk hpv hrf hrl
        refine hFdH.out.mono ?_
        rintro e w4 ⟨rfl, hb4⟩
        have hb4a := Lib.hid (hb3H.out.trans (hb4.mono hb3H.out.size))
        have hb4H := Lib.hid (hb4a.out.alloc hb4a.out.size (Obj.cells #[.int .u64 (a1 : Nat), .int .u64 (b1 : Nat)] 33))
        clear hb4
        go_wp2_with fail
        refine (hRk.out _ hb4H.out).mono ?_
        rintro e w5 ⟨rfl, hb5⟩
        have hb5H := Lib.hid (hb4H.out.trans (hb5.mono hb4H.out.size))
        have hb5c := Lib.hid hb5
        clear hb5
        go_wp2_with fail
        refine (hrr.out _ hb5H.out).mono ?_
        rintro e w6 ⟨rfl, hb6⟩
        have hb6H := Lib.hid (hb5H.out.trans (hb6.mono hb5H.out.size))
        have g1 : w6.cell? ⟨w4.heap.size, 0, none⟩ = some (.int .u64 (a1 : Nat)) := (hb5c.out.trans (hb6.mono hb5c.out.size)).cell (p := ⟨w4.heap.size, 0, none⟩) (by simp) ▸ (by go_simp)
        have g2 : w6.cell? ⟨w4.heap.size, 1, none⟩ = some (.int .u64 (b1 : Nat)) := (hb5c.out.trans (hb6.mono hb5c.out.size)).cell (p := ⟨w4.heap.size, 1, none⟩) (by simp) ▸ (by go_simp)
        clear hb6
        go_wp2_with fail
        refine (hPr1H.out _ hb6H.out).mono ?_
        rintro e w7 ⟨rfl, hb7⟩
        have hb7a := Lib.hid (hb6H.out.trans (hb7.mono hb6H.out.size))
        have hb7H := Lib.hid (hb7a.out.alloc hb7a.out.size (Obj.cells #[Value.string pk, Value.string pv] 37))
        obtain ⟨bs, os, hBs, s1, s2⟩ := hqH.out _ hb7H.out
        subst hBs
        have s3 : (w7.alloc (Obj.cells #[Value.string pk, Value.string pv] 37)).cell? ⟨w7.heap.size, 0, none⟩ = some (.string pk) := by go_simp
        have s4 : (w7.alloc (Obj.cells #[Value.string pk, Value.string pv] 37)).cell? ⟨w7.heap.size, 1, none⟩ = some (.string pv) := by go_simp
        clear hb7 g1 g2
        go_wp2
        go_quiet (fail)
        go_wp2_with fail
        have hb9H := Lib.hid (hb7H.out.trans ((Tx.drewN_below _ nq).mono hb7H.out.size))
        clear s1 s2 s3 s4
        by_cases hkk : 0 ≤ k ∧ k < its.length
        · obtain ⟨kn, rfl⟩ := Int.eq_ofNat_of_zero_le hkk.1
          have hkn : kn < its.length := by omega
          have hkn2 : kn < mm.length := by omega
          simp only [if_pos hkk, Int.toNat_natCast, List.getElem?_eq_getElem hkn, Option.map_some] at hAt
          have hPr2 := fun W hb => hPr.out W hb its[kn] (List.getElem_mem hkn)
          have hq := fun W (hb : Below w2.heap.size w2 W) => (hcf2.out.turn (Turn.below hb)).pairs hkn2
          simp only [hget.out kn hkn2 hkn] at hq
          obtain ⟨i2, hi2⟩ : ∃ i, its[kn] = i := ⟨_, rfl⟩
          simp only [hi2] at hAt hPr2 hq
          obtain ⟨a2, ha2⟩ : ∃ z, z = i2.kh := ⟨_, rfl⟩
          obtain ⟨b2, hb2⟩ : ∃ z, z = i2.vh := ⟨_, rfl⟩
          obtain ⟨pk2, hpk2⟩ : ∃ z, z = i2.k := ⟨_, rfl⟩
          obtain ⟨pv2, hpv2⟩ : ∃ z, z = i2.v := ⟨_, rfl⟩
          simp only [← ha2, ← hb2, ← hpk2, ← hpv2] at hAt hPr2 hq
          have hAtH := Lib.hid (hAt _ hb9H.out)
          have hPr2H := Lib.hid hPr2
          have hqH2 := Lib.hid hq
          have dk1 : decide ((kn : Int) < 0) = false := by simp
          have dk2 : decide (mm.length ≤ kn) = false := by simp; omega
          have dk3 : decide ((mm.length : Int) ≤ (kn : Int)) = false := by simp; omega
          clear hAt hPr2 hq hi2 ha2 hb2 hpk2 hpv2 hkk
          refine hAtH.out.mono ?_
          rintro e w10 ⟨rfl, hb10⟩
          simp only [itV]
          have hb10a := Lib.hid (hb9H.out.trans (hb10.mono hb9H.out.size))
          have hb10b := Lib.hid (hb10a.out.alloc hb10a.out.size (Obj.cells #[.int .u64 (a2 : Nat), .int .u64 (b2 : Nat)] 33))
          clear hb10
          go_wp2_with fail
          refine (hPr2H.out _ hb10b.out).mono ?_
          rintro e w11 ⟨rfl, hb11⟩
          have hb11H := Lib.hid (hb10b.out.trans (hb11.mono hb10b.out.size))
          have hb12H := Lib.hid (hb11H.out.alloc hb11H.out.size (Obj.cells #[Value.string pk2, Value.string pv2] 37))
          obtain ⟨bb, oo, hBs, r1, r2⟩ := hqH2.out _ hb12H.out
          try cases hBs
          try subst hBs
          have r3 : (w11.alloc (Obj.cells #[Value.string pk2, Value.string pv2] 37)).cell? ⟨w11.heap.size, 0, none⟩ = some (.string pk2) := by go_simp
          have r4 : (w11.alloc (Obj.cells #[Value.string pk2, Value.string pv2] 37)).cell? ⟨w11.heap.size, 1, none⟩ = some (.string pv2) := by go_simp
          clear hb11
          go_wp2
          refine wp_region_quiet_tail 14 (by kernel_rfl) (by kernel_rfl) ?_
          simp only [List.take_succ_cons, List.take_zero, List.drop_succ_cons, List.drop_zero]
          repeat (go_big_quiet_step (fail))
          refine wpQuiet_nil ?_
          rintro _ ⟨nq, rfl⟩
          go_wp2_with fail
          have hb13H := Lib.hid (hb12H.out.trans ((Tx.drewN_below _ nq).mono hb12H.out.size))
          refine (hAw.out _ hb13H.out).mono ?_
          rintro e w14 ⟨rfl, hb14⟩
          have hb14H := Lib.hid (hbw.out.trans ((hb2H.out.trans ((hb13H.out.trans (hb14.mono hb13H.out.size)).mono hb2H.out.size)).mono hbw.out.size))
          clear hb14
          go_wp2
          go_ret
          exact ⟨rfl, hb14H.out⟩
        · simp only [if_neg hkk, itV] at hAt
          have hAtH := Lib.hid (hAt _ hb9H.out)
          have hkc : (decide (k < 0) = true) ∨ (decide (k < 0) = false ∧ decide ((mm.length : Int) ≤ k) = true) := by
            by_cases h0 : k < 0
            · exact .inl (decide_eq_true h0)
            · exact .inr ⟨decide_eq_false h0, decide_eq_true (by omega)⟩
          clear hkk hAt
          rcases hkc with dk1 | ⟨dk1, dk2⟩
          all_goals
            refine hAtH.out.mono ?_
            rintro e w10 ⟨rfl, hb10⟩
            have hb10a := Lib.hid (hb9H.out.trans (hb10.mono hb9H.out.size))
            have hb10H := Lib.hid (hb10a.out.alloc hb10a.out.size (Obj.cells #[.int .u64 0, .int .u64 0] 33))
            clear hb10
            go_wp2_with fail
            refine (hAw.out _ hb10H.out).mono ?_
            rintro e w14 ⟨rfl, hb14⟩
            have hb14H := Lib.hid (hbw.out.trans ((hb2H.out.trans ((hb10H.out.trans (hb14.mono hb10H.out.size)).mono hb2H.out.size)).mono hbw.out.size))
            clear hb14
            go_wp2
            go_ret
            exact ⟨rfl, hb14H.out⟩
        --> some
      | none =>
        --< none
        as_aux_lemma =>
        have hfh := hfhH.out
        rw [hfi] at hfh
        simp only [hfi, Option.map_none, Option.isSome_none, itV] at hFd
        simp only [Option.isSome_none, Bool.false_eq_true, if_false] at hfh
        have hfl := hfh.1
        have hFdH := Lib.hid (hFd _ hb3H.out)
        rw [hfl]
        generalize rankL mm key = r at *
        clear hfi hfl hfh hFd hrf
        refine hFdH.out.mono ?_
        rintro e w4 ⟨rfl, hb4⟩
        have hb4a := Lib.hid (hb3H.out.trans (hb4.mono hb3H.out.size))
        have hb4H := Lib.hid (hb4a.out.alloc hb4a.out.size (Obj.cells #[.int .u64 0, .int .u64 0] 33))
        clear hb4
        go_wp2_with fail
        refine (hRk.out _ hb4H.out).mono ?_
        rintro e w5 ⟨rfl, hb5⟩
        have hb5H := Lib.hid (hb4H.out.trans (hb5.mono hb4H.out.size))
        clear hb5
        go_wp2_with fail
        refine (hrr.out _ hb5H.out).mono ?_
        rintro e w6 ⟨rfl, hb6⟩
        have hb9H := Lib.hid (hb5H.out.trans (hb6.mono hb5H.out.size))
        clear hb6
        go_wp2_with fail
        by_cases hkk : 0 ≤ k ∧ k < its.length
        · obtain ⟨kn, rfl⟩ := Int.eq_ofNat_of_zero_le hkk.1
          have hkn : kn < its.length := by omega
          have hkn2 : kn < mm.length := by omega
          simp only [if_pos hkk, Int.toNat_natCast, List.getElem?_eq_getElem hkn, Option.map_some] at hAt
          have hPr2 := fun W hb => hPr.out W hb its[kn] (List.getElem_mem hkn)
          have hq := fun W (hb : Below w2.heap.size w2 W) => (hcf2.out.turn (Turn.below hb)).pairs hkn2
          simp only [hget.out kn hkn2 hkn] at hq
          obtain ⟨i2, hi2⟩ : ∃ i, its[kn] = i := ⟨_, rfl⟩
          simp only [hi2] at hAt hPr2 hq
          obtain ⟨a2, ha2⟩ : ∃ z, z = i2.kh := ⟨_, rfl⟩
          obtain ⟨b2, hb2⟩ : ∃ z, z = i2.vh := ⟨_, rfl⟩
          obtain ⟨pk2, hpk2⟩ : ∃ z, z = i2.k := ⟨_, rfl⟩
          obtain ⟨pv2, hpv2⟩ : ∃ z, z = i2.v := ⟨_, rfl⟩
          simp only [← ha2, ← hb2, ← hpk2, ← hpv2] at hAt hPr2 hq
          have hAtH := Lib.hid (hAt _ hb9H.out)
          have hPr2H := Lib.hid hPr2
          have hqH2 := Lib.hid hq
          have dk1 : decide ((kn : Int) < 0) = false := by simp
          have dk2 : decide (mm.length ≤ kn) = false := by simp; omega
          have dk3 : decide ((mm.length : Int) ≤ (kn : Int)) = false := by simp; omega
          clear hAt hPr2 hq hi2 ha2 hb2 hpk2 hpv2 hkk
          refine hAtH.out.mono ?_
          rintro e w10 ⟨rfl, hb10⟩
          simp only [itV]
          have hb10a := Lib.hid (hb9H.out.trans (hb10.mono hb9H.out.size))
          have hb10b := Lib.hid (hb10a.out.alloc hb10a.out.size (Obj.cells #[.int .u64 (a2 : Nat), .int .u64 (b2 : Nat)] 33))
          clear hb10
          go_wp2_with fail
          refine (hPr2H.out _ hb10b.out).mono ?_
          rintro e w11 ⟨rfl, hb11⟩
          have hb11H := Lib.hid (hb10b.out.trans (hb11.mono hb10b.out.size))
          have hb12H := Lib.hid (hb11H.out.alloc hb11H.out.size (Obj.cells #[Value.string pk2, Value.string pv2] 37))
          obtain ⟨bb, oo, hBs, r1, r2⟩ := hqH2.out _ hb12H.out
          try cases hBs
          try subst hBs
          have r3 : (w11.alloc (Obj.cells #[Value.string pk2, Value.string pv2] 37)).cell? ⟨w11.heap.size, 0, none⟩ = some (.string pk2) := by go_simp
          have r4 : (w11.alloc (Obj.cells #[Value.string pk2, Value.string pv2] 37)).cell? ⟨w11.heap.size, 1, none⟩ = some (.string pv2) := by go_simp
          clear hb11
          go_wp2
          refine wp_region_quiet_tail 14 (by kernel_rfl) (by kernel_rfl) ?_
          simp only [List.take_succ_cons, List.take_zero, List.drop_succ_cons, List.drop_zero]
          repeat (go_big_quiet_step (fail))
          refine wpQuiet_nil ?_
          rintro _ ⟨nq, rfl⟩
          go_wp2_with fail
          have hb13H := Lib.hid (hb12H.out.trans ((Tx.drewN_below _ nq).mono hb12H.out.size))
          refine (hAw.out _ hb13H.out).mono ?_
          rintro e w14 ⟨rfl, hb14⟩
          have hb14H := Lib.hid (hbw.out.trans ((hb2H.out.trans ((hb13H.out.trans (hb14.mono hb13H.out.size)).mono hb2H.out.size)).mono hbw.out.size))
          clear hb14
          go_wp2
          go_ret
          exact ⟨rfl, hb14H.out⟩
        · simp only [if_neg hkk, itV] at hAt
          have hAtH := Lib.hid (hAt _ hb9H.out)
          have hkc : (decide (k < 0) = true) ∨ (decide (k < 0) = false ∧ decide ((mm.length : Int) ≤ k) = true) := by
            by_cases h0 : k < 0
            · exact .inl (decide_eq_true h0)
            · exact .inr ⟨decide_eq_false h0, decide_eq_true (by omega)⟩
          clear hkk hAt
          rcases hkc with dk1 | ⟨dk1, dk2⟩
          all_goals
            refine hAtH.out.mono ?_
            rintro e w10 ⟨rfl, hb10⟩
            have hb10a := Lib.hid (hb9H.out.trans (hb10.mono hb9H.out.size))
            have hb10H := Lib.hid (hb10a.out.alloc hb10a.out.size (Obj.cells #[.int .u64 0, .int .u64 0] 33))
            clear hb10
            go_wp2_with fail
            refine (hAw.out _ hb10H.out).mono ?_
            rintro e w14 ⟨rfl, hb14⟩
            have hb14H := Lib.hid (hbw.out.trans ((hb2H.out.trans ((hb10H.out.trans (hb14.mono hb10H.out.size)).mono hb2H.out.size)).mono hbw.out.size))
            clear hb14
            go_wp2
            go_ret
            exact ⟨rfl, hb14H.out⟩
        --> none
end Go.Proofs.YtjcpclcmnhpgpaaGreatDoor

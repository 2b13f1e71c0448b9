/-
  The seat's own texts, what PartsEnds wants besides: RankP, Ends14.
-/
import Derived.Test.YtjpmlneihbckpaaGreatDoorPe
import Derived.WalkLawsBesides
/- Ranks and the order of strings: plain law. -/
set_option linter.unusedVariables false
set_option linter.unusedSimpArgs false
namespace Go.Proofs.YtjpmlneihbckpaaGreatDoor
open Go.RowKit Go.Shelf
theorem less_cmp : ∀ a b : List UInt8, Op.bytesLess a b = decide (Lib.compareBytes a b < 0)
  | [], [] => rfl
  | [], _ :: _ => rfl
  | _ :: _, [] => rfl
  | a :: ar, b :: bs => by
    rw [Op.bytesLess, Lib.compareBytes]
    by_cases h1 : a < b
    · simp [h1]
    · by_cases h2 : b < a
      · have : (a == b) = false := by
          rw [beq_eq_false_iff_ne]; rintro rfl; exact h1 h2
        simp [h1, h2, this]
      · have : a = b := Tx.u8_eq h1 h2
        subst this
        simp [h1, less_cmp ar bs]
theorem cb_zero_byte : ∀ p a : List UInt8, Lib.compareBytes p (a ++ [0]) < 0 ↔ Lib.compareBytes p a ≤ 0
  | [], [] => by simp [Lib.compareBytes]
  | [], _ :: _ => by simp [Lib.compareBytes]
  | c :: cs, [] => by
    have h1 : ¬ c < 0 := by simp [UInt8.lt_iff_toNat_lt]
    simp only [List.nil_append, Lib.compareBytes, if_neg h1]
    constructor
    · intro h
      split at h
      · omega
      · cases cs <;> simp [Lib.compareBytes] at h
    · intro h; omega
  | c :: cs, b :: bs => by
    simp only [List.cons_append, Lib.compareBytes]
    by_cases h1 : c < b
    · simp [h1]
    · by_cases h2 : b < c
      · simp [h1, h2]
      · simp only [if_neg h1, if_neg h2]
        exact cb_zero_byte cs bs
theorem cmp_zero_byte (p a : ByteArray) : Tx.cmp p (a ++ ⟨#[0]⟩) < 0 ↔ Tx.cmp p a ≤ 0 := by
  unfold Tx.cmp
  rw [show (a ++ (⟨#[0]⟩ : ByteArray)).data.toList = a.data.toList ++ [0] by rw [ByteArray.data_append]; simp]
  exact cb_zero_byte _ _
theorem rank_mono {l : List Pr} {a b : ByteArray} (h : Tx.cmp a b ≤ 0) : rankL l a ≤ rankL l b := by
  unfold rankL
  refine List.countP_mono_left fun p _ hp => ?_
  have hp := of_decide_eq_true hp
  refine decide_eq_true ?_
  by_cases h0 : Tx.cmp a b = 0
  · rw [← cmp_zero.1 h0]; exact hp
  · exact cmp_lt_trans hp (by omega)
theorem rank_zero {l : List Pr} (h : Rising l) (a : ByteArray) : rankL l (a ++ ⟨#[0]⟩) = rankL l a + if hasK l a then 1 else 0 := by
  obtain ⟨h1, h2⟩ := rank_split (k := a) h
  have hle := rankL_le l a
  have hk : hasK l a ↔ (l[rankL l a]?).map (·.1) = some a := Iff.rfl
  rw [show (if hasK l a then 1 else 0) = (if (l[rankL l a]?).map (·.1) = some a then 1 else 0) from rfl]
  clear hk
  generalize rankL l a = r at *
  have hsplit : rankL l (a ++ ⟨#[0]⟩) = rankL (l.take r) (a ++ ⟨#[0]⟩) + rankL (l.drop r) (a ++ ⟨#[0]⟩) := by
    rw [← rankL_append, List.take_append_drop]
  have ht : rankL (l.take r) (a ++ ⟨#[0]⟩) = r := by
    rw [rankL_all (fun p hp => (cmp_zero_byte _ _).2 (by have := h1 p hp; omega)), List.length_take]
    omega
  rw [hsplit, ht]
  congr 1
  by_cases hlt : r < l.length
  · have hd := List.drop_eq_getElem_cons hlt
    have hr : Rising (l.drop r) := List.Pairwise.sublist (List.drop_sublist r l) h
    rw [hd] at h2 hr ⊢
    have hr' := List.pairwise_cons.1 hr
    have hd0 := h2 l[r] List.mem_cons_self
    have hrest : rankL (l.drop (r + 1)) (a ++ ⟨#[0]⟩) = 0 := by
      refine rankL_none fun q hq e => ?_
      have h3 := hr'.1 q hq
      have h4 := (cmp_zero_byte _ _).1 e
      have h5 := cmp_swap q.1 a
      by_cases h6 : Tx.cmp q.1 a = 0
      · rw [cmp_zero.1 h6] at h3; exact hd0 h3
      · exact hd0 (cmp_lt_trans h3 (by omega))
    rw [rankL_cons, hrest, List.getElem?_eq_getElem hlt]
    simp only [Option.map_some, Option.some.injEq, Nat.zero_add]
    by_cases he : l[r].1 = a
    · rw [if_pos he, if_pos ((cmp_zero_byte _ _).2 (by have := (cmp_zero (a := l[r].1) (b := a)).2 he; omega))]
    · rw [if_neg he, if_neg]
      intro e
      have h4 := (cmp_zero_byte _ _).1 e
      have : Tx.cmp l[r].1 a ≠ 0 := fun e => he (cmp_zero.1 e)
      omega
  · rw [List.drop_eq_nil_of_le (by omega), List.getElem?_eq_none (by omega)]
    simp [rankL]
/-- what a law's guard lets by: too many, or a long text: awake -/
theorem str_less (a b : ByteArray) : Op.bytesLess a.toList b.toList = decide (Tx.cmp a b < 0) := by
  rw [Tx.toList_eq, Tx.toList_eq, less_cmp]; rfl
end Go.Proofs.YtjpmlneihbckpaaGreatDoor
/- loftlaw14.PartsEnds: the walk. -/
set_option linter.unusedVariables false
set_option linter.unusedSimpArgs false
namespace Go.Proofs.YtjpmlneihbckpaaGreatDoor
open Go.RowKit Go.Shelf
set_option maxHeartbeats 4000000 in
set_option maxRecDepth 100000 in
theorem ends14_0 {w : World} (hT : Tab w) (k : Int) (l : List Pr) (A : Option Addr) (c : Nat) (h : ILaw w A l) (hg : k < 1 ∨ 2 < k ∨ 60 < l.length ∨ longL l = true) :
    Calls Tryz.prog 10 #[.int .i64 k, .slice A l.length c] w (TrueB w) := by
  have hN := Lib.hid (snew_at hT 262144 1000 4294967295 (by omega) (by omega) (by omega) (by omega) (by omega))
  have hTH := Lib.hid hT
  have hL := fun W (hb : Below w.heap.size w W) => refLong_at (c := c) (h.1.prs.below hb) h.2.2 h.2.1
  have z1 := h.2.2
  have hLH := Lib.hid hL
  clear hT h hL
  unfold TrueB
  by_cases q4 : k < 1
  · have d4 : decide (k < 1) = true := decide_eq_true q4
    clear hg
    go_enter Tryz.func10, Tryz.ntmps10
    go_wp2_with fail
    refine hN.out.mono ?_
    rintro e w1 ⟨s, F, rfl, hS, hs1, hF1, hb1⟩
    have hb1H := Lib.hid hb1
    clear hS hF1 hb1 hN
    have hAw := Lib.hid (awake14_at (hTH.out.below hb1H.out (tab_lt hTH.out)))
    go_wp2_with fail
    refine hAw.out.mono ?_
    rintro e w9 ⟨rfl, hb9⟩
    have hb9H := Lib.hid (hb1H.out.trans (hb9.mono hb1H.out.size))
    clear hb9 hAw
    go_wp2
    go_ret
    exact ⟨rfl, hb9H.out⟩
  · have d4 : decide (k < 1) = false := decide_eq_false q4
    by_cases q3 : 2 < k
    · have d3 : decide (2 < k) = true := decide_eq_true q3
      clear hg
      go_enter Tryz.func10, Tryz.ntmps10
      go_wp2_with fail
      refine hN.out.mono ?_
      rintro e w1 ⟨s, F, rfl, hS, hs1, hF1, hb1⟩
      have hb1H := Lib.hid hb1
      clear hS hF1 hb1 hN
      have hAw := Lib.hid (awake14_at (hTH.out.below hb1H.out (tab_lt hTH.out)))
      go_wp2_with fail
      refine hAw.out.mono ?_
      rintro e w9 ⟨rfl, hb9⟩
      have hb9H := Lib.hid (hb1H.out.trans (hb9.mono hb1H.out.size))
      clear hb9 hAw
      go_wp2
      go_ret
      exact ⟨rfl, hb9H.out⟩
    · have d3 : decide (2 < k) = false := decide_eq_false q3
      by_cases q2 : (60 : Int) < (l.length : Int)
      · have d2 : decide ((60 : Int) < (l.length : Int)) = true := decide_eq_true q2
        clear hg
        go_enter Tryz.func10, Tryz.ntmps10
        go_wp2_with fail
        refine hN.out.mono ?_
        rintro e w1 ⟨s, F, rfl, hS, hs1, hF1, hb1⟩
        have hb1H := Lib.hid hb1
        clear hS hF1 hb1 hN
        have hAw := Lib.hid (awake14_at (hTH.out.below hb1H.out (tab_lt hTH.out)))
        go_wp2_with fail
        refine hAw.out.mono ?_
        rintro e w9 ⟨rfl, hb9⟩
        have hb9H := Lib.hid (hb1H.out.trans (hb9.mono hb1H.out.size))
        clear hb9 hAw
        go_wp2
        go_ret
        exact ⟨rfl, hb9H.out⟩
      · have d2 : decide ((60 : Int) < (l.length : Int)) = false := decide_eq_false q2
        have q : longL l = true := by rcases hg with h | h | h | h <;> first | exact h | omega
        have hLa := Lib.hid (fun W hb => by have := hLH.out W hb; rw [q] at this; exact this)
        clear hg q hLH
        go_enter Tryz.func10, Tryz.ntmps10
        go_wp2_with fail
        refine hN.out.mono ?_
        rintro e w1 ⟨s, F, rfl, hS, hs1, hF1, hb1⟩
        have hb1H := Lib.hid hb1
        clear hS hF1 hb1 hN
        go_wp2_with fail
        refine (hLa.out _ hb1H.out).mono ?_
        rintro e w2 ⟨rfl, rfl⟩
        have hAw := Lib.hid (awake14_at (hTH.out.below hb1H.out (tab_lt hTH.out)))
        go_wp2_with fail
        refine hAw.out.mono ?_
        rintro e w9 ⟨rfl, hb9⟩
        have hb9H := Lib.hid (hb1H.out.trans (hb9.mono hb1H.out.size))
        clear hb9 hAw
        go_wp2
        go_ret
        exact ⟨rfl, hb9H.out⟩
/-- the last key put, or none -/
def lastK (m : List Pr) (k : Nat) : ByteArray := if h : 0 < k ∧ k ≤ m.length then (m[k - 1]'(by omega)).1 else ⟨#[]⟩
theorem lastK_succ {m : List Pr} {k : Nat} (h : k < m.length) : lastK m (k + 1) = m[k].1 := by
  unfold lastK
  rw [dif_pos ⟨by omega, by omega⟩]
  rfl
theorem cmp_empty (p : ByteArray) : ¬ Tx.cmp p ⟨#[]⟩ < 0 := by
  have h1 : Tx.cmp ⟨#[]⟩ p ≤ 0 := by
    unfold Tx.cmp
    have := Tx.cb_append [] p.data.toList
    simpa using this
  have h2 := cmp_swap ⟨#[]⟩ p
  omega
theorem lastK_rank {m : List Pr} (hr : Rising m) : rankL m (lastK m m.length ++ ⟨#[0]⟩) = m.length := by
  refine rankL_allP fun p hp => ?_
  rw [cmp_zero_byte]
  obtain ⟨i, hi, rfl⟩ := List.getElem_of_mem hp
  unfold lastK
  rw [dif_pos ⟨by omega, Nat.le_refl _⟩]
  by_cases e : i = m.length - 1
  · subst e
    rw [(cmp_zero.2 rfl : Tx.cmp _ _ = 0)]
    exact Int.le_refl 0
  · have := List.pairwise_iff_getElem.1 hr i (m.length - 1) hi (by omega) (by omega)
    exact Int.le_of_lt this
theorem lastK_900 {m : List Pr} (h : ∀ j (hj : j < m.length), j < m.length → m[j].1.size ≤ 900) : (lastK m m.length).size ≤ 900 := by
  unfold lastK
  split
  · exact h _ (by omega) (by omega)
  · decide
theorem lastK_size {m : List Pr} (h : ∀ j (hj : j < m.length), j < m.length → m[j].1.size ≤ 900) : (lastK m m.length ++ (⟨#[0]⟩ : ByteArray)).size ≤ 1000 := by
  have h1 : (lastK m m.length).size ≤ 900 := by
    unfold lastK
    split
    · exact h _ (by omega) (by omega)
    · decide
  rw [ByteArray.size_append]
  have : (⟨#[0]⟩ : ByteArray).size = 1 := rfl
  omega
theorem ends_one {m : List Pr} {K : ByteArray} {a b c : List Pr} (h : Parted m K a b c) (hr : rankL m K = m.length) : a = m ∧ b = [] ∧ c = [] := by
  have h1 := h.rank
  have h2 := congrArg List.length h.app
  simp only [List.length_append] at h2
  have hb : b = [] := List.eq_nil_of_length_eq_zero (by omega)
  have hc : c = [] := List.eq_nil_of_length_eq_zero (by omega)
  refine ⟨?_, hb, hc⟩
  have := h.app
  rw [hb, hc] at this
  simpa using this
theorem ends_two {m : List Pr} {a b c : List Pr} (h : Parted m ⟨#[]⟩ a b c) : a = [] ∧ b.length + c.length = m.length ∧ (b.length = 1 ↔ (m[0]?).map (·.1) = some ⟨#[]⟩) := by
  have h0 : rankL m ⟨#[]⟩ = 0 := rankL_none fun p _ => cmp_empty p.1
  have h1 := h.rank
  have h2 := congrArg List.length h.app
  have h3 := h.has
  simp only [List.length_append] at h2
  rw [h0] at h1 h3
  exact ⟨List.eq_nil_of_length_eq_zero h1.symm, by omega, h3.symm⟩
set_option maxHeartbeats 8000000 in
set_option maxRecDepth 100000 in
theorem ends14_main {w : World} (hT : Tab w) (rd : Bool) (l : List Pr) (A : Option Addr) (c : Nat) (h : ILaw w A l) (g1 : l.length ≤ 60) (g3 : longL l = false) :
    Calls Tryz.prog 10 #[.int .i64 (kindZ rd), .slice A l.length c] w (TrueB w) := by
  have hN := Lib.hid (snew_at hT 262144 1000 4294967295 (by omega) (by omega) (by omega) (by omega) (by omega))
  have hTH := Lib.hid hT
  have hL := fun W (hb : Below w.heap.size w W) => refLong_at (c := c) (h.1.prs.below hb) h.2.2 h.2.1
  rw [g3] at hL
  have hLH := Lib.hid hL
  have d1 : decide ((60 : Int) < (l.length : Int)) = false := decide_eq_false (by omega)
  obtain ⟨dk1, dk2⟩ := kindZ_ok rd
  have hso := Lib.hid (fun W (hb : Below w.heap.size w W) => refSorted_at (c := c) (h.1.prs.below hb) hb.size (by omega) h.2.1)
  have hsl := sortedL_len l
  have hrs := Lib.hid (sortedL_rising l)
  have hszl := sized_of g3
  have hszm : Hid (∀ p ∈ sortedL l, p.1.size ≤ 1000 ∧ p.2.size ≤ 1000) := Lib.hid (fun p hp => hszl p (sortedL_mem hp))
  clear hT h hL g3 hszl
  unfold TrueB
  go_enter Tryz.func10, Tryz.ntmps10
  go_wp2_with fail
  refine hN.out.mono ?_
  rintro e w1 ⟨s, F, rfl, hS, hs1, hF1, hb1⟩
  have hb1H := Lib.hid hb1
  have hSt1 := Lib.hid (PaIn.start hS rd)
  have hF1H : Hid (∀ b, F b → w.heap.size ≤ b) := Lib.hid hF1
  have hFl := Lib.hid (fun b (hf : F b) => hS.lt hf)
  have hso1 := Lib.hid (hso.out _ hb1)
  clear hS hF1 hb1 hN hso
  go_wp2_with fail
  refine (hLH.out _ hb1H.out).mono ?_
  rintro e w2 ⟨rfl, rfl⟩
  clear hLH
  go_wp2_with fail
  refine hso1.out.mono ?_
  rintro e w2 ⟨v, rfl, hrow, hb2⟩
  obtain ⟨A2, c2, rfl, hA2, hc2, hP2⟩ := own_pairs hrow rfl
  have hcf := Lib.hid (CellsF.own hrow hP2 hFl.out)
  have hb2H := Lib.hid (hb1H.out.trans (hb2.mono hb1H.out.size))
  have hSt2 := Lib.hid (hSt1.out.below hb2)
  clear hrow hP2 hb2 hso1 hFl hSt1 hb1H
  generalize sortedL l = m at *
  go_wp2_with fail
  go_loopw [8, 9, 10] (fun rv lv iv wr => ∃ (k : Nat) (t : BT) (F' : Nat → Prop) (R' : Nat → Option (List Nat)) (H' : List Nat), k ≤ m.length ∧ iv = .int .i64 k ∧ rv = .int .u64 (t.root : Nat) ∧ Hid (PaIn wr s F' R' H' (9 * k) 262144 1000 4294967295 (3 * k) rd t .none (m.take k)) ∧ Hid (Turn w2 F wr F') ∧ lv = .string (lastK m k) ∧ Hid (∀ j (hj : j < m.length), j < k → m[j].1.size ≤ 900)) (fun _ _ iv _ => m.length - (intOf iv).toNat)
  case atStart => exact ⟨0, .nil, F, _, [], by omega, rfl, rfl, by simpa using hSt2, Lib.hid (Turn.refl _ _), rfl, Lib.hid (fun j hj h0 => by omega)⟩
  case round =>
    obtain ⟨k, t, F', R', H', hk, rfl, rfl, hst, hT', rfl, h900⟩ := hrel
    by_cases hlt : k < m.length
    · skip
      obtain ⟨bb, oo, hAs, q1, q2⟩ := (hcf.out.turn hT'.out).pairs hlt
      obtain ⟨hput, hfnd⟩ := rise_put hrs.out hlt
      have hzp := hszm.out _ (List.getElem_mem hlt)
      have hp9 : Hid (lastK m (k + 1) = m[k].1) := Lib.hid (lastK_succ hlt)
      obtain ⟨p, hp⟩ : ∃ p, m[k] = p := ⟨_, rfl⟩
      rw [hp] at hput hfnd hzp hp9
      simp only [hp] at q1 q2
      have hlen := hst.out.len
      have htk : (m.take k).length = k := by rw [List.length_take]; omega
      rw [htk] at hlen
      simp only [Ln.hs, List.length_nil, Nat.add_zero] at hlen
      have hLf := leaf14_at hst.out.st p hzp.1 hzp.2 (by omega) (by omega) (by omega)
      have hpH := Lib.hid hp
      have hLfH := Lib.hid hLf
      have hputH := Lib.hid hput
      have hfndH := Lib.hid hfnd
      have htkH := Lib.hid htk
      have hz9 := hzp.1
      subst hAs
      clear hLf hput hfnd hp hlen htk hzp
      have h9n : Hid (p.1.size ≤ 900 → ∀ j (hj : j < m.length), j < k + 1 → m[j].1.size ≤ 900) := Lib.hid (fun h j hj h1 => by
        by_cases e : j = k
        · subst e; rw [hpH.out]; exact h
        · exact h900.out j hj (by omega))
      by_cases hbig : 900 < p.1.size
      · have db : decide ((900 : Int) < (p.1.size : Int)) = true := decide_eq_true (by omega)
        have hbw := Lib.hid (hb2H.out.trans (hT'.out.to_below hb2H.out.size hF1H.out))
        clear hLfH hputH hfndH h9n hp9 h900
        have hAw := Lib.hid (awake14_at (hTH.out.below hbw.out (tab_lt hTH.out)))
        go_wp2_with fail
        refine hAw.out.mono ?_
        rintro e w9 ⟨rfl, hb9⟩
        have hb9H := Lib.hid (hbw.out.trans (hb9.mono hbw.out.size))
        clear hb9 hAw
        go_wp2
        go_ret
        exact ⟨rfl, hb9H.out⟩
      · have db : decide ((900 : Int) < (p.1.size : Int)) = false := decide_eq_false (by omega)
        have h9k := Lib.hid (h9n.out (by omega))
        clear h9n h900 hbig
        go_wp2_with fail
        refine hLfH.out.mono ?_
        rintro e w3 ⟨x, kx, vx, F2, R2, H2, rfl, gm, hS2, hH2, hT2, hx64⟩
        have hIH := Lib.hid (paLeafIns_at hst.out gm hS2 hH2 (by have := htkH.out; omega))
        have hT2H := Lib.hid (hT'.out.trans hT2)
        clear gm hS2 hH2 hT2 hLfH
        go_wp2_with fail
        refine hIH.out.mono ?_
        rintro e w4 ⟨t', old, R4, rfl, hst4, ho, hT4⟩
        have h0 : old.root = 0 := by
          by_cases h : old.root = 0
          · exact h
          · exact absurd (ho.1 h) (by have := hfndH.out; omega)
        obtain rfl := Ln.none_of hst4.oat h0
        have hst4' := hst4.more (P' := 9 * (k + 1)) (G' := 3 * (k + 1)) (by omega) (by omega)
        rw [hputH.out] at hst4'
        have hst4H := Lib.hid hst4'
        have hT4H := Lib.hid (hT2H.out.trans hT4)
        have r0 : (Ln.none).root = 0 := rfl
        obtain ⟨bb2, oo2, hAs2, q3, q4⟩ := (hcf.out.turn hT4H.out).pairs hlt
        cases hAs2
        simp only [hpH.out] at q3 q4
        clear hst4 hst4' ho hT4 hIH h0 hst hT'
        go_wp2
        go_roundw
        case rel => exact ⟨k + 1, t', F2, R4, H2, by omega, by go_num, rfl, hst4H, hT4H, by rw [hp9.out], h9k⟩
        case measure => simp [intOf]; omega
    · obtain rfl : k = m.length := by omega
      have hst2 := hst.out
      rw [List.take_length] at hst2
      have hstH := Lib.hid hst2
      have hlr := lastK_rank hrs.out
      have hls := lastK_size h900.out
      have hl9 := lastK_900 h900.out
      clear hst hst2 h900
      have hnd := (List.nodup_append.1 hstH.out.nd).1
      obtain ⟨K, hK⟩ : ∃ K, K = lastK m m.length ++ (⟨#[0]⟩ : ByteArray) := ⟨_, rfl⟩
      rw [← hK] at hlr hls
      have hsz := hstH.out.size
      have hSp := Lib.hid (paSplT_at hstH.out.st rd hstH.out.z hstH.out.sh hstH.out.at' hstH.out.kd hnd (by omega) K hls)
      rw [hK] at hSp
      have hKH := Lib.hid hK
      have hlrH := Lib.hid hlr
      have hndH := Lib.hid hnd
      clear hK hlr hls hnd hsz
      generalize lastK m m.length = lk at *
      go_wp2_with fail
      refine hSp.out.mono ?_
      rintro e w5 ⟨l1, m1, r1, R5, rfl, o, hk5, hS5, hT5⟩
      rw [← hKH.out] at o
      have hpt := o.parted (by rw [hstH.out.prs]; exact hstH.out.ris)
      rw [hstH.out.prs] at hpt
      obtain ⟨e1, e2, e3⟩ := ends_one hpt hlrH.out
      obtain rfl := BT.nil_of e3
      have em : m1.root = 0 := by
        by_cases h : m1.root = 0
        · exact h
        · have := (Ln.root_ne o.ma).1 h; rw [e2] at this; cases this
      rw [em, show ((BT.root .nil : Nat)) = 0 from rfl]
      have z5 : R5 0 = none := hk5.zero hstH.out.z
      have sh5 : Short R5 := hk5.short hstH.out.sh
      have nd5 : l1.hs.Nodup := by have h9 := hndH.out; rw [← o.hs] at h9; exact (List.nodup_append.1 h9).1
      obtain ⟨n5, hTl, -⟩ := treeIn hS5 sh5 z5 o.la e1 hrs.out nd5
      have hSz := Lib.hid (tsize_at hTl)
      have hz1 : l1.size ≤ 99 := by rw [← BT.prs_len, e1]; omega
      have hSp2 := fun W (hb : Below w5.heap.size w5 W) => paSplT_at (hS5.below hb) rd z5 sh5 o.la o.lk nd5 hz1 ⟨#[]⟩ (by decide)
      have hT5H := Lib.hid (hT'.out.trans hT5)
      have e1H := Lib.hid e1
      have z5H := Lib.hid z5
      have sh5H := Lib.hid sh5
      have nd5H := Lib.hid nd5
      have hSp2H := Lib.hid hSp2
      clear hpt e2 e3 em e1 z5 sh5 nd5 hTl hz1 hSp2 o hk5 hS5 hT5 hSp hstH hKH hlrH hndH hT'
      have eqm : ((m.length : Int) != (m.length : Int)) = false := by simp
      go_wp2_with fail
      refine hSz.out.mono ?_
      rintro e w6 ⟨rfl, hb6⟩
      have hb6H := Lib.hid hb6
      have hSp3 := Lib.hid (hSp2H.out _ hb6)
      have hT6H := Lib.hid (hT5H.out.trans (Turn.below (F := F') hb6))
      clear hb6 hSz hSp2H hT5H
      go_wp2_with fail
      refine hSp3.out.mono ?_
      rintro e w7 ⟨l2, m2, r2, R7, rfl, o, hk7, hS7, hT7⟩
      have hpt := o.parted (by rw [e1H.out]; exact hrs.out)
      rw [e1H.out] at hpt
      obtain ⟨e1, e2, e3⟩ := ends_two hpt
      obtain rfl := BT.nil_of e1
      rw [show ((BT.root .nil : Nat)) = 0 from rfl]
      have e4 := Ln.root_ne o.ma
      have z7 : R7 0 = none := hk7.zero z5H.out
      have sh7 : Short R7 := hk7.short sh5H.out
      have nd7 : r2.hs.Nodup := by have h9 := nd5H.out; rw [← o.hs] at h9; exact (List.nodup_append.1 (List.nodup_append.1 h9).2.1).2.1
      have rr : Rising r2.prs := by have h9 := hrs.out; rw [← hpt.app] at h9; exact rising_right (rising_right h9)
      obtain ⟨n7, hTr, -⟩ := treeIn hS7 sh7 z7 o.ra rfl rr nd7
      have hSz2 := Lib.hid (tsize_at hTr)
      have hcf7 := Lib.hid (hcf.out.turn (hT6H.out.trans hT7))
      have hbw7 := Lib.hid (hb2H.out.trans ((hT6H.out.trans hT7).to_below hb2H.out.size hF1H.out))
      obtain ⟨rl, hrl⟩ : ∃ rl, r2.prs.length = rl := ⟨_, rfl⟩
      rw [hrl] at hSz2 e2
      obtain ⟨nr, hnr⟩ : ∃ nr, m2.root = nr := ⟨_, rfl⟩
      rw [hnr] at e4
      rw [hnr]
      have hOne := Lib.hid (fun W => paOne_at nr W)
      have hmb := m2.prs_len
      generalize m2.prs.length = mb at *
      clear hpt e1 z7 sh7 nd7 rr hTr hnr hrl o hk7 hS7 hT7 hSp3 e1H z5H sh5H nd5H hT6H hcf
      by_cases hm0 : m.length = 0
      · have h0 : (m[0]?).map (·.1) ≠ some ⟨#[]⟩ := by rw [List.getElem?_eq_none (by omega)]; simp
        have hnz : nr = 0 := by
          by_cases h : nr = 0
          · exact h
          · exact absurd (e3.1 (e4.1 h)) h0
        have hmb0 : mb = 0 := by have := mt e3.1 h0; omega
        have d0 : decide (0 < (m.length : Int)) = false := decide_eq_false (by omega)
        have d0n : decide (0 < m.length) = false := decide_eq_false (by omega)
        clear e3 h0
        have hOn2 : Hid (∀ W, Calls Tryz.prog 38 #[.int .u64 (nr : Nat)] W fun e w' => e = .returned (.int .i64 0) ∧ W = w') := Lib.hid (fun W => by have := hOne.out W; rw [if_pos hnz] at this; exact this)
        have dn : ((nr : Int) != 0) = false := by simp; omega
        have ds : ((rl : Int) + 0 == (m.length : Int)) = true := by simp; omega
        have dsb : (rl : Int) + 0 ≤ 60 := by omega
        clear hOne hnz e4
        go_wp2_with fail
        refine hSz2.out.mono ?_
        rintro e w8 ⟨rfl, hb8⟩
        have hb8H := Lib.hid (hbw7.out.trans (hb8.mono hbw7.out.size))
        clear hb8 hSz2
        go_wp2_with fail
        refine (hOn2.out _).mono ?_
        rintro e w8' ⟨rfl, rfl⟩
        have hAw := Lib.hid (awake14_at (hTH.out.below hb8H.out (tab_lt hTH.out)))
        go_wp2_with fail
        refine hAw.out.mono ?_
        rintro e w9 ⟨rfl, hb9⟩
        have hb9H := Lib.hid (hb8H.out.trans (hb9.mono hb8H.out.size))
        clear hb9 hAw
        go_wp2
        go_ret
        exact ⟨rfl, hb9H.out⟩
      · have hpos : 0 < m.length := by omega
        have d0 : decide (0 < (m.length : Int)) = true := decide_eq_true (by omega)
        have d0n : decide (0 < m.length) = true := decide_eq_true hpos
        obtain ⟨bb, oo, hAs, q1, q2⟩ := hcf7.out.pairs hpos
        rw [List.getElem?_eq_getElem hpos, Option.map_some, Option.some.injEq] at e3
        subst hAs
        clear hcf7
        generalize m[0].1 = p0 at *
        generalize m[0].2 = v0 at *
        simp only [Nat.zero_mul, Nat.add_zero] at q1 q2
        by_cases hp0 : p0 = ⟨#[]⟩
        · have hs0 : p0.toList.isEmpty = true := by rw [hp0, Tx.toList_eq]; rfl
          have hb1 := e3.2 hp0
          have hnz : nr ≠ 0 := e4.2 hb1
          clear e3 hp0
          have hOn2 : Hid (∀ W, Calls Tryz.prog 38 #[.int .u64 (nr : Nat)] W fun e w' => e = .returned (.int .i64 1) ∧ W = w') := Lib.hid (fun W => by have := hOne.out W; rw [if_neg hnz] at this; exact this)
          have dn : ((nr : Int) != 0) = true := by simp; omega
          have ds : ((rl : Int) + 1 == (m.length : Int)) = true := by simp; omega
          have dsb : (rl : Int) + 1 ≤ 60 := by omega
          clear hOne hnz e4
          go_wp2_with fail
          refine hSz2.out.mono ?_
          rintro e w8 ⟨rfl, hb8⟩
          have hb8H := Lib.hid (hbw7.out.trans (hb8.mono hbw7.out.size))
          clear hb8 hSz2
          go_wp2_with fail
          refine (hOn2.out _).mono ?_
          rintro e w8' ⟨rfl, rfl⟩
          have hAw := Lib.hid (awake14_at (hTH.out.below hb8H.out (tab_lt hTH.out)))
          go_wp2_with fail
          refine hAw.out.mono ?_
          rintro e w9 ⟨rfl, hb9⟩
          have hb9H := Lib.hid (hb8H.out.trans (hb9.mono hb8H.out.size))
          clear hb9 hAw
          go_wp2
          go_ret
          exact ⟨rfl, hb9H.out⟩
        · have hs0 : p0.toList.isEmpty = false := by
            rw [Tx.toList_eq]
            cases hd : p0.data.toList with
            | nil => exact absurd (by cases p0; simp_all) hp0
            | cons a b => rfl
          have hb1 := mt e3.1 hp0
          have hnz : nr = 0 := by
            by_cases h : nr = 0
            · exact h
            · exact absurd (e4.1 h) hb1
          have hmb0 : mb = 0 := by omega
          clear e3 hp0
          have hOn2 : Hid (∀ W, Calls Tryz.prog 38 #[.int .u64 (nr : Nat)] W fun e w' => e = .returned (.int .i64 0) ∧ W = w') := Lib.hid (fun W => by have := hOne.out W; rw [if_pos hnz] at this; exact this)
          have dn : ((nr : Int) != 0) = false := by simp; omega
          have ds : ((rl : Int) + 0 == (m.length : Int)) = true := by simp; omega
          have dsb : (rl : Int) + 0 ≤ 60 := by omega
          clear hOne hnz e4
          go_wp2_with fail
          refine hSz2.out.mono ?_
          rintro e w8 ⟨rfl, hb8⟩
          have hb8H := Lib.hid (hbw7.out.trans (hb8.mono hbw7.out.size))
          clear hb8 hSz2
          go_wp2_with fail
          refine (hOn2.out _).mono ?_
          rintro e w8' ⟨rfl, rfl⟩
          have hAw := Lib.hid (awake14_at (hTH.out.below hb8H.out (tab_lt hTH.out)))
          go_wp2_with fail
          refine hAw.out.mono ?_
          rintro e w9 ⟨rfl, hb9⟩
          have hb9H := Lib.hid (hb8H.out.trans (hb9.mono hb8H.out.size))
          clear hb9 hAw
          go_wp2
          go_ret
          exact ⟨rfl, hb9H.out⟩
end Go.Proofs.YtjpmlneihbckpaaGreatDoor

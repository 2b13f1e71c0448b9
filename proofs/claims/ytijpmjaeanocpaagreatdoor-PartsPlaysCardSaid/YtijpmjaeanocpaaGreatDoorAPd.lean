/-
  The seat's own texts, shared part d: RbW5, RbW6, RbD.
-/
import Derived.Test.YtijpmjaeanocpaaGreatDoorAPc

set_option linter.unusedVariables false
set_option linter.unusedSimpArgs false
namespace Go.Proofs.YtijpmjaeanocpaaGreatDoor
open Go.RowKit Go.Shelf
set_option maxRecDepth 100000 in
theorem rbIs_at {w : World} {s N : Nat} {R : Nat → Option (List Nat)} {n : Nat} (h : Rd N w s R n) (x : Nat) (hx : x < 18446744073709551616) : Calls Tryz.prog 213 #[.pointer (some ⟨s, 0, none⟩), .int .u64 (x : Nat)] w fun e w' => e = .returned (.bool (isR R x)) ∧ Below w.heap.size w w' := by
  obtain ⟨nd, hnd⟩ : ∃ nd, nodeG R x = nd := ⟨_, rfl⟩
  obtain ⟨z, hz⟩ : ∃ z, nodeE R x = z := ⟨_, rfl⟩
  have hG := Lib.hid (nget_lit h x hx nd hnd z hz)
  have hv : isR R x = (x == 0 || z == 0) := by unfold isR; rw [hz]
  by_cases h0 : x = 0
  · have d : ((x : Int) == 0) = true := by simp; omega
    have hv2 : Hid (isR R x = true) := Lib.hid (by rw [hv, h0]; rfl)
    clear h hnd hz hv h0
    go_enter Tryz.func213, Tryz.ntmps213
    go_wp2_with fail
    refine hG.out.mono ?_
    rintro e w1 ⟨rfl, hb⟩
    have hbH := Lib.hid hb
    have hz1 := hb.size
    clear hb
    go_wp2
    go_ret
    exact ⟨by rw [hv2.out]; rfl, hbH.out.alloc hz1 _⟩
  · have d : ((x : Int) == 0) = false := by simp; omega
    have hv2 : Hid (isR R x = (z == 0)) := Lib.hid (by rw [hv]; simp [h0])
    have hzz : z = 0 ∨ z ≠ 0 := by omega
    rcases hzz with hz0 | hz0
    · have d2 : ((z : Int) == 0) = true := by simp; omega
      have hv3 : Hid (isR R x = true) := Lib.hid (by rw [hv2.out, hz0]; rfl)
      clear h hnd hz hv h0 hz0
      go_enter Tryz.func213, Tryz.ntmps213
      go_wp2_with fail
      refine hG.out.mono ?_
      rintro e w1 ⟨rfl, hb⟩
      have hbH := Lib.hid hb
      have hz1 := hb.size
      clear hb
      go_wp2
      go_ret
      exact ⟨by rw [hv3.out]; rfl, hbH.out.alloc hz1 _⟩
    · have d2 : ((z : Int) == 0) = false := by simp; omega
      have hv3 : Hid (isR R x = false) := Lib.hid (by rw [hv2.out]; simpa using hz0)
      clear h hnd hz hv h0 hz0
      go_enter Tryz.func213, Tryz.ntmps213
      go_wp2_with fail
      refine hG.out.mono ?_
      rintro e w1 ⟨rfl, hb⟩
      have hbH := Lib.hid hb
      have hz1 := hb.size
      clear hb
      go_wp2
      go_ret
      exact ⟨by rw [hv3.out]; rfl, hbH.out.alloc hz1 _⟩
section
variable {w w' : World} {s : Nat} {F : Nat → Prop} {R : Nat → Option (List Nat)} {H : List Nat} {P q most last G : Nat}
set_option maxHeartbeats 4000000 in
set_option maxRecDepth 100000 in
theorem rbJTop_at (h : StoreIs w s F R H P q most last G) (tn : Bool) (t m low : Nat) (ht : t < 18446744073709551616) (hm : m < 18446744073709551616) (hlow : low < 18446744073709551616) :
    Calls Tryz.prog 215 #[.agg #[.pointer (some ⟨s, 0, none⟩), .bool tn], .int .u64 (t : Nat), .int .u64 (m : Nat), .int .u64 (low : Nat)] w fun e w' => e = .returned (.int .u64 ((rbTop tn R t m low).2 : Nat)) ∧ StoreIs w' s F (rbTop tn R t m low).1 H P q most last G ∧ Turn w F w' F := by
  have hX0 := Box.new w 301 [.pointer (some ⟨s, 0, none⟩), .bool tn]
  obtain ⟨W0, hW0⟩ : ∃ W, W = w.alloc (Obj.cells #[.pointer (some ⟨s, 0, none⟩), .bool tn] 301) := ⟨_, rfl⟩
  have hb0 : Below w.heap.size w W0 := by rw [hW0]; exact (Below.refl _ w).alloc (Nat.le_refl _) _
  rw [← hW0] at hX0
  have hFb0 : ¬ F w.heap.size := fun hf => by have := h.lt hf; omega
  have hS0 := h.below hb0
  have c0 := hX0.at' (i := 0) rfl
  have c1 := hX0.at' (i := 1) rfl
  have hX0H := Lib.hid hX0
  have hT0H : Hid (Turn w F W0 F) := Lib.hid (Turn.below hb0)
  have hW0H := Lib.hid hW0
  have hJ : Calls Tryz.prog 236 #[.agg #[.pointer (some ⟨s, 0, none⟩), .bool tn], .int .u64 (t : Nat), .int .u64 (m : Nat), .int .u64 (low : Nat), .int .i64 0] W0 _ := rbJoin_at tn m low hm hlow 200 W0 R t (Nat.le_refl _) ht hS0
  have hv : rbTop tn R t m low = if rbRed (rbJoin tn m low 200 R t).1 (rbJoin tn m low 200 R t).2 = true ∧ rbRed (rbJoin tn m low 200 R t).1 (rbSides (rbJoin tn m low 200 R t).1 tn (rbJoin tn m low 200 R t).2).2 = true then (rbPutT (rbJoin tn m low 200 R t).1 tn (rbJoin tn m low 200 R t).2 (rbSides (rbJoin tn m low 200 R t).1 tn (rbJoin tn m low 200 R t).2).1 (rbSides (rbJoin tn m low 200 R t).1 tn (rbJoin tn m low 200 R t).2).2 false, (rbJoin tn m low 200 R t).2) else rbJoin tn m low 200 R t := rfl
  generalize rbJoin tn m low 200 R t = p at *
  obtain ⟨Ra, y⟩ := p
  simp only at hJ hv
  have hvH := Lib.hid hv
  have hJH := Lib.hid hJ
  clear h hX0 hb0 hW0 hS0 hJ hv
  go_enter Tryz.func215, Tryz.ntmps215
  go_wp2_with fail
  rw [← hW0H.out]
  go_wp2_with fail
  refine hJH.out.mono ?_
  rintro e W1 ⟨rfl, hy, hS1, hT1⟩
  have hX1H := Lib.hid (hX0H.out.turn hT1 hFb0)
  have hT1H := Lib.hid (hT0H.out.trans hT1)
  obtain ⟨n1, hr1, _⟩ := hS1.rd
  have hS1H := Lib.hid hS1
  have hr1H := Lib.hid hr1
  have hol := rbSides_lt hr1 tn y
  have hSd := rbSides_at hr1 tn y hy
  clear hJH hS1 hT1 hr1 c0 c1 hX0H hT0H
  have c0 := hX1H.out.at' (i := 0) rfl
  have c1 := hX1H.out.at' (i := 1) rfl
  have hRy := Lib.hid (fun W (hb : Below W1.heap.size W1 W) => rbRed_at (hr1H.out.below hb) y hy)
  have hRo := Lib.hid (fun W (hb : Below W1.heap.size W1 W) => rbRed_at (hr1H.out.below hb) (rbSides Ra tn y).2 hol.2)
  generalize rbSides Ra tn y = oo at *
  obtain ⟨ot, ow⟩ := oo
  simp only at hol hRo hSd
  obtain ⟨hot, how⟩ := hol
  have hSdH := Lib.hid hSd
  clear hSd hr1H
  go_wp2_with fail
  refine hSdH.out.mono ?_
  rintro e W2 ⟨rfl, hb2⟩
  have hX2H := Lib.hid (hX1H.out.below hb2)
  have hb2H := Lib.hid hb2
  clear hb2 hSdH c0 c1
  have c0 := hX2H.out.at' (i := 0) rfl
  have c1 := hX2H.out.at' (i := 1) rfl
  cases h1 : rbRed Ra y with
  | false =>
    have hv2 : Hid (rbTop tn R t m low = (Ra, y)) := Lib.hid (by rw [hvH.out, if_neg (by rw [h1]; simp)])
    have hq := Lib.hid (hRy.out W2 hb2H.out)
    rw [h1] at hq
    clear h1 hvH hRy hRo
    go_wp2_with fail
    refine hq.out.mono ?_
    rintro e W3 ⟨rfl, hb3⟩
    have hb3H := Lib.hid (hb2H.out.trans (hb3.mono hb2H.out.size))
    clear hb3 hq c0 c1
    go_wp2
    go_ret
    rw [hv2.out]
    exact ⟨rfl, hS1H.out.below hb3H.out, hT1H.out.trans (Turn.below hb3H.out)⟩
  | true =>
    have hq := Lib.hid (hRy.out W2 hb2H.out)
    rw [h1] at hq
    cases h2 : rbRed Ra ow with
    | false =>
      have hv2 : Hid (rbTop tn R t m low = (Ra, y)) := Lib.hid (by rw [hvH.out, if_neg (by rw [h2]; simp)])
      have hq2 := Lib.hid (fun W (hb : Below W1.heap.size W1 W) => hRo.out W hb)
      rw [h2] at hq2
      clear h1 h2 hvH hRy hRo
      go_wp2_with fail
      refine hq.out.mono ?_
      rintro e W3 ⟨rfl, hb3⟩
      have hb3H := Lib.hid (hb2H.out.trans (hb3.mono hb2H.out.size))
      have hX3H := Lib.hid (hX2H.out.below hb3)
      clear hb3 hq c0 c1 hX2H hb2H
      have c0 := hX3H.out.at' (i := 0) rfl
      have c1 := hX3H.out.at' (i := 1) rfl
      go_wp2_with fail
      refine (hq2.out W3 hb3H.out).mono ?_
      rintro e W4 ⟨rfl, hb4⟩
      have hb4H := Lib.hid (hb3H.out.trans (hb4.mono hb3H.out.size))
      have hX4H := Lib.hid (hX3H.out.below hb4)
      clear hb4 hq2 c0 c1 hX3H hb3H
      go_wp2
      go_ret
      rw [hv2.out]
      exact ⟨rfl, hS1H.out.below hb4H.out, hT1H.out.trans (Turn.below hb4H.out)⟩
    | true =>
      have hv2 := Lib.hid (hvH.out.trans (if_pos ⟨h1, h2⟩))
      have hq2 := Lib.hid (fun W (hb : Below W1.heap.size W1 W) => hRo.out W hb)
      rw [h2] at hq2
      clear h1 h2 hvH hRy hRo
      go_wp2_with fail
      refine hq.out.mono ?_
      rintro e W3 ⟨rfl, hb3⟩
      have hb3H := Lib.hid (hb2H.out.trans (hb3.mono hb2H.out.size))
      have hX3H := Lib.hid (hX2H.out.below hb3)
      clear hb3 hq c0 c1 hX2H hb2H
      have c0 := hX3H.out.at' (i := 0) rfl
      have c1 := hX3H.out.at' (i := 1) rfl
      go_wp2_with fail
      refine (hq2.out W3 hb3H.out).mono ?_
      rintro e W4 ⟨rfl, hb4⟩
      have hb4H := Lib.hid (hb3H.out.trans (hb4.mono hb3H.out.size))
      have hX4H := Lib.hid (hX3H.out.below hb4)
      clear hb4 hq2 c0 c1 hX3H hb3H
      have c0 := hX4H.out.at' (i := 0) rfl
      have c1 := hX4H.out.at' (i := 1) rfl
      have hP := Lib.hid (rbPutT_at (hS1H.out.below hb4H.out) tn y ot ow hy hot how false)
      go_wp2_with fail
      refine hP.out.mono ?_
      rintro e W5 ⟨rfl, hS5, hT5⟩
      have hS5H := Lib.hid hS5
      have hT5H := Lib.hid ((hT1H.out.trans (Turn.below hb4H.out)).trans hT5)
      clear hS5 hT5 hP c0 c1
      go_wp2
      go_ret
      rw [hv2.out]
      exact ⟨rfl, hS5H.out, hT5H.out⟩
set_option maxHeartbeats 4000000 in
set_option maxRecDepth 100000 in
theorem rbTop_at (h : StoreIs w s F R H P q most last G) (l m r : Nat) (hl : l < 18446744073709551616) (hm : m < 18446744073709551616) (hr : r < 18446744073709551616) :
    Calls Tryz.prog 169 #[.pointer (some ⟨s, 0, none⟩), .int .u64 (l : Nat), .int .u64 (m : Nat), .int .u64 (r : Nat)] w fun e w' => e = .returned (.tuple #[.int .u64 ((rbJ R l m r).2.1 : Nat), .int .i64 ((rbJ R l m r).2.2 : Nat)]) ∧ StoreIs w' s F (rbJ R l m r).1 H P q most last G ∧ Turn w F w' F := by
  obtain ⟨n, hrd, _⟩ := h.rd
  have hLen := rlen_at hrd 0 (by omega)
  have hI := Lib.hid (fun W (hb : Below w.heap.size w W) y (hy : y < 18446744073709551616) => rbIs_at (hrd.below hb) y hy)
  have hBk := Lib.hid (fun W (hb : Below w.heap.size w W) y (hy : y < 18446744073709551616) => rbBlack_at (hrd.below hb) y hy)
  have hRe := Lib.hid (fun W (hb : Below w.heap.size w W) y (hy : y < 18446744073709551616) => rbRed_at (hrd.below hb) y hy)
  have hHs := Lib.hid h
  obtain ⟨lv, hlv, hle⟩ : ∃ (a b : Nat), lenR R 0 = .tuple #[.int .i64 (a : Nat), .int .i64 (b : Nat)] ∧ b ≠ 1 := by
    unfold lenR
    cases R 0 with
    | none => exact ⟨0, 7, rfl, by decide⟩
    | some ws => exact ⟨ws.length, 0, rfl, by decide⟩
  rw [hle.1] at hLen
  have hl1 := hle.2
  have dl : ((hlv : Int) == 1) = false := by simp; omega
  have hLenH := Lib.hid hLen
  clear h hrd hLen hle
  have fin : ∀ (hc : ¬ (m ≠ 0 ∧ isR R l = true ∧ isR R m = true ∧ isR R r = true)), Hid (rbJ R l m r = (R, 0, 8)) := fun hc => Lib.hid (rbJ_no hc)
  by_cases hm0 : m = 0
  · have d0 : ((m : Int) == 0) = true := by simp; omega
    have hv := fin (fun hc => hc.1 hm0)
    clear fin hm0
    go_enter Tryz.func169, Tryz.ntmps169
    go_wp2_with fail
    refine hLenH.out.mono ?_
    rintro e w1 ⟨rfl, rfl⟩
    go_wp2
    go_ret2
    rw [hv.out]
    exact ⟨rfl, hHs.out, Turn.refl _ _⟩
  · have d0 : ((m : Int) == 0) = false := by simp; omega
    cases h1 : isR R l with
    | false =>
      have hv := fin (fun hc => by rw [h1] at hc; cases hc.2.1)
      have hi1 := Lib.hid (hI.out w (Below.refl _ _) l hl)
      rw [h1] at hi1
      clear fin h1 hm0 hI
      go_enter Tryz.func169, Tryz.ntmps169
      go_wp2_with fail
      refine hLenH.out.mono ?_
      rintro e w1 ⟨rfl, rfl⟩
      go_wp2_with fail
      refine hi1.out.mono ?_
      rintro e w1 ⟨rfl, hb1⟩
      have hb1H := Lib.hid hb1
      clear hb1
      go_wp2
      go_ret2
      rw [hv.out]
      exact ⟨rfl, hHs.out.below hb1H.out, Turn.below hb1H.out⟩
    | true =>
      have hi1 := Lib.hid (hI.out w (Below.refl _ _) l hl)
      have hi2 := Lib.hid (fun W (hb : Below w.heap.size w W) => hI.out W hb m hm)
      rw [h1] at hi1
      cases h2 : isR R m with
      | false =>
        have hv := fin (fun hc => by rw [h2] at hc; cases hc.2.2.1)
        rw [h2] at hi2
        clear fin h1 h2 hm0 hI
        go_enter Tryz.func169, Tryz.ntmps169
        go_wp2_with fail
        refine hLenH.out.mono ?_
        rintro e w1 ⟨rfl, rfl⟩
        go_wp2_with fail
        refine hi1.out.mono ?_
        rintro e w1 ⟨rfl, hb1⟩
        have hb1H := Lib.hid hb1
        clear hb1
        go_wp2_with fail
        refine (hi2.out _ hb1H.out).mono ?_
        rintro e w2 ⟨rfl, hb2⟩
        have hb2H := Lib.hid (hb1H.out.trans (hb2.mono hb1H.out.size))
        clear hb2
        go_wp2
        go_ret2
        rw [hv.out]
        exact ⟨rfl, hHs.out.below hb2H.out, Turn.below hb2H.out⟩
      | true =>
        have hi3 := Lib.hid (fun W (hb : Below w.heap.size w W) => hI.out W hb r hr)
        rw [h2] at hi2
        cases h3 : isR R r with
        | false =>
          have hv := fin (fun hc => by rw [h3] at hc; cases hc.2.2.2)
          rw [h3] at hi3
          clear fin h1 h2 h3 hm0 hI
          go_enter Tryz.func169, Tryz.ntmps169
          go_wp2_with fail
          refine hLenH.out.mono ?_
          rintro e w1 ⟨rfl, rfl⟩
          go_wp2_with fail
          refine hi1.out.mono ?_
          rintro e w1 ⟨rfl, hb1⟩
          have hb1H := Lib.hid hb1
          clear hb1
          go_wp2_with fail
          refine (hi2.out _ hb1H.out).mono ?_
          rintro e w2 ⟨rfl, hb2⟩
          have hb2H := Lib.hid (hb1H.out.trans (hb2.mono hb1H.out.size))
          clear hb2
          go_wp2_with fail
          refine (hi3.out _ hb2H.out).mono ?_
          rintro e w3 ⟨rfl, hb3⟩
          have hb3H := Lib.hid (hb2H.out.trans (hb3.mono hb2H.out.size))
          clear hb3
          go_wp2
          go_ret2
          rw [hv.out]
          exact ⟨rfl, hHs.out.below hb3H.out, Turn.below hb3H.out⟩
        | true =>
          have hv := Lib.hid (rbJ_yes (R := R) (l := l) (m := m) (r := r) ⟨hm0, h1, h2, h3⟩)
          have hall : Hid (rbAll R l m r = if rbB R r < rbB R l then rbTop false R l m r else if rbB R l < rbB R r then rbTop true R r m l else (rbPut R m l r (!rbRed R l && !rbRed R r), m)) := Lib.hid rfl
          have hTA := Lib.hid (fun W (hb : Below w.heap.size w W) => rbJTop_at (hHs.out.below hb) false l m r hl hm hr)
          have hTB := Lib.hid (fun W (hb : Below w.heap.size w W) => rbJTop_at (hHs.out.below hb) true r m l hr hm hl)
          have hPu := Lib.hid (fun W (hb : Below w.heap.size w W) => rbPut_at (hHs.out.below hb) m l r hm hl hr (!rbRed R l && !rbRed R r))
          have hB1 := Lib.hid (fun W (hb : Below w.heap.size w W) => hBk.out W hb l hl)
          have hB2 := Lib.hid (fun W (hb : Below w.heap.size w W) => hBk.out W hb r hr)
          have hR1 := Lib.hid (fun W (hb : Below w.heap.size w W) => hRe.out W hb l hl)
          have hR2 := Lib.hid (fun W (hb : Below w.heap.size w W) => hRe.out W hb r hr)
          rw [h3] at hi3
          generalize rbTop false R l m r = pa at *
          generalize rbTop true R r m l = pb at *
          generalize rbPut R m l r (!rbRed R l && !rbRed R r) = Rp at *
          generalize rbB R l = b1 at *
          generalize rbB R r = b2 at *
          generalize rbRed R l = r1 at *
          generalize rbRed R r = r2 at *
          clear fin h1 h2 h3 hm0 hI hBk hRe
          by_cases q1 : b2 < b1
          · have d1 : decide (b2 < b1) = true := decide_eq_true q1
            have hall2 := Lib.hid (hall.out.trans (if_pos q1))
            clear q1 hall
            go_enter Tryz.func169, Tryz.ntmps169
            go_wp2_with fail
            refine hLenH.out.mono ?_
            rintro e w1 ⟨rfl, rfl⟩
            go_wp2_with fail
            refine hi1.out.mono ?_
            rintro e w1 ⟨rfl, hb1⟩
            have hb1H := Lib.hid hb1
            clear hb1
            go_wp2_with fail
            refine (hi2.out _ hb1H.out).mono ?_
            rintro e w2 ⟨rfl, hb2⟩
            have hb2H := Lib.hid (hb1H.out.trans (hb2.mono hb1H.out.size))
            clear hb2
            go_wp2_with fail
            refine (hi3.out _ hb2H.out).mono ?_
            rintro e w3 ⟨rfl, hb3⟩
            have hb3H := Lib.hid (hb2H.out.trans (hb3.mono hb2H.out.size))
            clear hb3
            go_wp2_with fail
            refine (hB1.out _ hb3H.out).mono ?_
            rintro e w4 ⟨rfl, hb4⟩
            have hb4H := Lib.hid (hb3H.out.trans (hb4.mono hb3H.out.size))
            clear hb4
            go_wp2_with fail
            refine (hB2.out _ hb4H.out).mono ?_
            rintro e w5 ⟨rfl, hb5⟩
            have hb5H := Lib.hid (hb4H.out.trans (hb5.mono hb4H.out.size))
            clear hb5
            go_wp2_with fail
            refine (hTA.out _ hb5H.out).mono ?_
            rintro e w6 ⟨rfl, hS6, hT6⟩
            have hS6H := Lib.hid hS6
            have hT6H := Lib.hid ((Turn.below (F := F) hb5H.out).trans hT6)
            clear hS6 hT6
            go_wp2
            go_ret2
            rw [hv.out, okW_1, okW_2, okW_3, hall2.out]
            exact ⟨rfl, hS6H.out, hT6H.out⟩
          · have d1 : decide (b2 < b1) = false := decide_eq_false q1
            by_cases q2 : b1 < b2
            · have d2 : decide (b1 < b2) = true := decide_eq_true q2
              have hall2 := Lib.hid ((hall.out.trans (if_neg q1)).trans (if_pos q2))
              clear q1 q2 hall
              go_enter Tryz.func169, Tryz.ntmps169
              go_wp2_with fail
              refine hLenH.out.mono ?_
              rintro e w1 ⟨rfl, rfl⟩
              go_wp2_with fail
              refine hi1.out.mono ?_
              rintro e w1 ⟨rfl, hb1⟩
              have hb1H := Lib.hid hb1
              clear hb1
              go_wp2_with fail
              refine (hi2.out _ hb1H.out).mono ?_
              rintro e w2 ⟨rfl, hb2⟩
              have hb2H := Lib.hid (hb1H.out.trans (hb2.mono hb1H.out.size))
              clear hb2
              go_wp2_with fail
              refine (hi3.out _ hb2H.out).mono ?_
              rintro e w3 ⟨rfl, hb3⟩
              have hb3H := Lib.hid (hb2H.out.trans (hb3.mono hb2H.out.size))
              clear hb3
              go_wp2_with fail
              refine (hB1.out _ hb3H.out).mono ?_
              rintro e w4 ⟨rfl, hb4⟩
              have hb4H := Lib.hid (hb3H.out.trans (hb4.mono hb3H.out.size))
              clear hb4
              go_wp2_with fail
              refine (hB2.out _ hb4H.out).mono ?_
              rintro e w5 ⟨rfl, hb5⟩
              have hb5H := Lib.hid (hb4H.out.trans (hb5.mono hb4H.out.size))
              clear hb5
              go_wp2_with fail
              refine (hTB.out _ hb5H.out).mono ?_
              rintro e w6 ⟨rfl, hS6, hT6⟩
              have hS6H := Lib.hid hS6
              have hT6H := Lib.hid ((Turn.below (F := F) hb5H.out).trans hT6)
              clear hS6 hT6
              go_wp2
              go_ret2
              rw [hv.out, okW_1, okW_2, okW_3, hall2.out]
              exact ⟨rfl, hS6H.out, hT6H.out⟩
            · have d2 : decide (b1 < b2) = false := decide_eq_false q2
              have hall2 := Lib.hid ((hall.out.trans (if_neg q1)).trans (if_neg q2))
              clear q1 q2 hall
              cases r1 with
              | true =>
                go_enter Tryz.func169, Tryz.ntmps169
                go_wp2_with fail
                refine hLenH.out.mono ?_
                rintro e w1 ⟨rfl, rfl⟩
                go_wp2_with fail
                refine hi1.out.mono ?_
                rintro e w1 ⟨rfl, hb1⟩
                have hb1H := Lib.hid hb1
                clear hb1
                go_wp2_with fail
                refine (hi2.out _ hb1H.out).mono ?_
                rintro e w2 ⟨rfl, hb2⟩
                have hb2H := Lib.hid (hb1H.out.trans (hb2.mono hb1H.out.size))
                clear hb2
                go_wp2_with fail
                refine (hi3.out _ hb2H.out).mono ?_
                rintro e w3 ⟨rfl, hb3⟩
                have hb3H := Lib.hid (hb2H.out.trans (hb3.mono hb2H.out.size))
                clear hb3
                go_wp2_with fail
                refine (hB1.out _ hb3H.out).mono ?_
                rintro e w4 ⟨rfl, hb4⟩
                have hb4H := Lib.hid (hb3H.out.trans (hb4.mono hb3H.out.size))
                clear hb4
                go_wp2_with fail
                refine (hB2.out _ hb4H.out).mono ?_
                rintro e w5 ⟨rfl, hb5⟩
                have hb5H := Lib.hid (hb4H.out.trans (hb5.mono hb4H.out.size))
                clear hb5
                go_wp2_with fail
                refine (hR1.out _ hb5H.out).mono ?_
                rintro e w6 ⟨rfl, hb6⟩
                have hb6H := Lib.hid (hb5H.out.trans (hb6.mono hb5H.out.size))
                clear hb6
                have hPu2 : Hid (∀ W, Below w.heap.size w W → Calls Tryz.prog 216 #[.pointer (some ⟨s, 0, none⟩), .int .u64 (m : Nat), .int .u64 (l : Nat), .int .u64 (r : Nat), .bool false] W _) := hPu
                clear hPu
                go_wp2_with fail
                refine (hPu2.out _ hb6H.out).mono ?_
                rintro e w7 ⟨rfl, hS7, hT7⟩
                have hS7H := Lib.hid hS7
                have hT7H := Lib.hid ((Turn.below (F := F) hb6H.out).trans hT7)
                clear hS7 hT7
                go_wp2
                go_ret2
                rw [hv.out, okW_1, okW_2, okW_3, hall2.out]
                exact ⟨rfl, hS7H.out, hT7H.out⟩
              | false =>
                go_enter Tryz.func169, Tryz.ntmps169
                go_wp2_with fail
                refine hLenH.out.mono ?_
                rintro e w1 ⟨rfl, rfl⟩
                go_wp2_with fail
                refine hi1.out.mono ?_
                rintro e w1 ⟨rfl, hb1⟩
                have hb1H := Lib.hid hb1
                clear hb1
                go_wp2_with fail
                refine (hi2.out _ hb1H.out).mono ?_
                rintro e w2 ⟨rfl, hb2⟩
                have hb2H := Lib.hid (hb1H.out.trans (hb2.mono hb1H.out.size))
                clear hb2
                go_wp2_with fail
                refine (hi3.out _ hb2H.out).mono ?_
                rintro e w3 ⟨rfl, hb3⟩
                have hb3H := Lib.hid (hb2H.out.trans (hb3.mono hb2H.out.size))
                clear hb3
                go_wp2_with fail
                refine (hB1.out _ hb3H.out).mono ?_
                rintro e w4 ⟨rfl, hb4⟩
                have hb4H := Lib.hid (hb3H.out.trans (hb4.mono hb3H.out.size))
                clear hb4
                go_wp2_with fail
                refine (hB2.out _ hb4H.out).mono ?_
                rintro e w5 ⟨rfl, hb5⟩
                have hb5H := Lib.hid (hb4H.out.trans (hb5.mono hb4H.out.size))
                clear hb5
                go_wp2_with fail
                refine (hR1.out _ hb5H.out).mono ?_
                rintro e w6 ⟨rfl, hb6⟩
                have hb6H := Lib.hid (hb5H.out.trans (hb6.mono hb5H.out.size))
                clear hb6
                have hPu2 : Hid (∀ W, Below w.heap.size w W → Calls Tryz.prog 216 #[.pointer (some ⟨s, 0, none⟩), .int .u64 (m : Nat), .int .u64 (l : Nat), .int .u64 (r : Nat), .bool (!r2)] W _) := hPu
                clear hPu
                go_wp2_with fail
                refine (hR2.out _ hb6H.out).mono ?_
                rintro e w7 ⟨rfl, hb7⟩
                have hb7H := Lib.hid (hb6H.out.trans (hb7.mono hb6H.out.size))
                clear hb7
                go_wp2_with fail
                refine (hPu2.out _ hb7H.out).mono ?_
                rintro e w8 ⟨rfl, hS8, hT8⟩
                have hS8H := Lib.hid hS8
                have hT8H := Lib.hid ((Turn.below (F := F) hb7H.out).trans hT8)
                clear hS8 hT8
                go_wp2
                go_ret2
                rw [hv.out, okW_1, okW_2, okW_3, hall2.out]
                exact ⟨rfl, hS8H.out, hT8H.out⟩
end
end Go.Proofs.YtijpmjaeanocpaaGreatDoor

set_option linter.unusedVariables false
set_option linter.unusedSimpArgs false
namespace Go.Proofs.YtijpmjaeanocpaaGreatDoor
open Go.RowKit Go.Shelf
def rbBad1 (R : Nat → Option (List Nat)) (x : Nat) : Bool := rbB R (nodeG R x).right != rbB R (nodeG R x).left
def rbBad2 (R : Nat → Option (List Nat)) (x : Nat) : Bool := rbB R x != (if rbRed R x then rbB R (nodeG R x).left else rbB R (nodeG R x).left + 1)
def rbBad3 (R : Nat → Option (List Nat)) (x : Nat) : Bool := rbRed R x && (rbRed R (nodeG R x).left || rbRed R (nodeG R x).right)
def rbBad (R : Nat → Option (List Nat)) (x : Nat) : Bool := rbBad1 R x || rbBad2 R x || rbBad3 R x
def rcheckR (R : Nat → Option (List Nat)) (n root : Nat) : Nat := if checkR R n root ≠ 0 then checkR R n root else if (inR R n root).any (rbBad R) then 8 else 0
section
variable {w w' : World} {s N : Nat} {R : Nat → Option (List Nat)} {n : Nat}
set_option maxHeartbeats 4000000 in
set_option maxRecDepth 100000 in
theorem rbCheck_at (h : Rd N w s R n) (hsh : Short R) (x : Nat) (hx : x < 18446744073709551616) :
    Calls Tryz.prog 170 #[.pointer (some ⟨s, 0, none⟩), .int .u64 (x : Nat)] w fun e w' => e = .returned (.int .i64 (rcheckR R n x : Nat)) ∧ Below w.heap.size w w' := by
  have hCk := check_at h hsh x hx
  have hLi := Lib.hid (fun W (hb : Below w.heap.size w W) => list_at (h.below hb) x hx)
  have hGt := Lib.hid (fun W (hb : Below w.heap.size w W) y (hy : y < 18446744073709551616) nd (hnd : nodeG R y = nd) => rbGet_at (h.below hb) y hy nd hnd)
  have hBk := Lib.hid (fun W (hb : Below w.heap.size w W) y (hy : y < 18446744073709551616) => rbBlack_at (h.below hb) y hy)
  have hRe := Lib.hid (fun W (hb : Below w.heap.size w W) y (hy : y < 18446744073709551616) => rbRed_at (h.below hb) y hy)
  have hokG := Lib.hid (fun y => h.nodeG y)
  have hBl : Hid (∀ y, rbB R y < 9223372036854775808) := Lib.hid (fun y => by have := (h.nodeG y).mark; unfold rbB; omega)
  have hlen := inR_len R n x
  have hnle := h.le
  have hLlt := Lib.hid (fun y (hy : y ∈ inR R n x) => inR_lt (fun z => h.nodeG z) hx y hy)
  obtain ⟨c, hc⟩ : ∃ c, checkR R n x = c := ⟨_, rfl⟩
  have hv : rcheckR R n x = if c ≠ 0 then c else if (inR R n x).any (rbBad R) then 8 else 0 := by unfold rcheckR; rw [hc]
  have hc9 : c = 0 ∨ c = 8 := by rw [← hc]; exact checkR_val R n x
  rw [hc] at hCk
  have hCkH := Lib.hid hCk
  generalize inR R n x = L at *
  clear hCk hc
  by_cases hc0 : c = 0
  · have dc : ((c : Int) != 0) = false := by rw [hc0]; rfl
    rw [if_neg (by simp [hc0])] at hv
    have hvH := Lib.hid hv
    clear hv hc0 hc9 h hsh
    go_enter Tryz.func170, Tryz.ntmps170
    go_wp2_with fail
    refine hCkH.out.mono ?_
    rintro e w1 ⟨rfl, hb1⟩
    have hb1H := Lib.hid hb1
    clear hb1 hCkH
    go_wp2_with fail
    refine (hLi.out _ hb1H.out).mono ?_
    rintro e w2 ⟨v, rfl, hro, hb2⟩
    obtain ⟨A2, c2, rfl⟩ := ownsRow_form hro
    have hb2H := Lib.hid (hb1H.out.trans (hb2.mono hb1H.out.size))
    have hcl : Hid (∀ i (hi : i < L.length), ∃ g, A2 = some ⟨g, 0, none⟩ ∧ ∀ W, Below w2.heap.size w2 W → W.cell? ⟨g, i, none⟩ = some (.int .u64 (L[i] : Nat))) := Lib.hid (fun i hi => by
      obtain ⟨g, cap, hv⟩ := row_pos hro (by omega)
      cases hv
      refine ⟨g, rfl, fun W hb => ?_⟩
      have h1 := hro.cells (g := g) rfl i (.int .u64 (L[i] : Nat)) (by rw [hsV, List.getElem?_map, List.getElem?_eq_getElem hi]; rfl)
      rw [show (⟨g, 0, none⟩ : Addr).add i = ⟨g, i, none⟩ by unfold Addr.add; split <;> simp_all] at h1
      exact (hb.cell (p := ⟨g, i, none⟩) (cell_lt h1)).trans h1)
    clear hro hb2 hLi hb1H
    go_wp2_with fail
    go_loopw [21] (fun iv wr => ∃ k : Nat, k ≤ L.length ∧ iv = .int .i64 k ∧ Hid (Below w2.heap.size w2 wr) ∧ Hid ((L.take k).any (rbBad R) = false)) (fun iv _ => L.length - (intOf iv).toNat)
    case atStart => exact ⟨0, by omega, rfl, Lib.hid (Below.refl _ _), Lib.hid (by simp)⟩
    case round =>
      obtain ⟨k, hk, rfl, hbr, hpre⟩ := hrel
      by_cases hlt : k < L.length
      · obtain ⟨g, hA, hg⟩ := hcl.out k hlt
        subst hA
        have hc0 := hg wr hbr.out
        have hylt := hLlt.out L[k] (List.getElem_mem hlt)
        have hnx : Hid ((L.take (k + 1)).any (rbBad R) = rbBad R L[k]) := Lib.hid (by rw [List.take_succ_eq_append_getElem hlt, List.any_append, hpre.out]; simp)
        have hall : Hid (rbBad R L[k] = true → L.any (rbBad R) = true) := Lib.hid (fun hb => List.any_eq_true.2 ⟨_, List.getElem_mem hlt, hb⟩)
        obtain ⟨y, hy⟩ : ∃ y, L[k] = y := ⟨_, rfl⟩
        rw [hy] at hc0 hylt hnx hall
        have hbwr := Lib.hid (hb2H.out.trans (hbr.out.mono hb2H.out.size))
        obtain ⟨t, ht⟩ : ∃ t, nodeG R y = t := ⟨_, rfl⟩
        have hg3 := Lib.hid (hGt.out wr hbwr.out y hylt t ht)
        have hokt := hokG.out y
        rw [ht] at hokt
        have hbd : rbBad R y = (rbB R t.right != rbB R t.left || rbB R y != (if rbRed R y then rbB R t.left else rbB R t.left + 1) || rbRed R y && (rbRed R t.left || rbRed R t.right)) := by unfold rbBad rbBad1 rbBad2 rbBad3; rw [ht]
        have hBL := Lib.hid (fun W (hb : Below w.heap.size w W) => hBk.out W hb t.left hokt.left)
        have hBR := Lib.hid (fun W (hb : Below w.heap.size w W) => hBk.out W hb t.right hokt.right)
        have hBY := Lib.hid (fun W (hb : Below w.heap.size w W) => hBk.out W hb y hylt)
        have hRL := Lib.hid (fun W (hb : Below w.heap.size w W) => hRe.out W hb t.left hokt.left)
        have hRR := Lib.hid (fun W (hb : Below w.heap.size w W) => hRe.out W hb t.right hokt.right)
        have hRY := Lib.hid (fun W (hb : Below w.heap.size w W) => hRe.out W hb y hylt)
        have lL := hBl.out t.left
        have lR := hBl.out t.right
        have lY := hBl.out y
        generalize rbB R t.left = bl at *
        generalize rbB R t.right = br at *
        generalize rbB R y = bh at *
        generalize rbRed R t.left = rl at *
        generalize rbRed R t.right = rr at *
        generalize rbRed R y = ry at *
        have hbdH := Lib.hid hbd
        clear ht hy hbd hg hcl hokt
        go_wp2_with fail
        refine hg3.out.mono ?_
        rintro e w3 ⟨rfl, hb3⟩
        have hb3H := Lib.hid (hbwr.out.trans (hb3.mono hbwr.out.size))
        have hbr3 := Lib.hid (hbr.out.trans (hb3.mono hbr.out.size))
        have hz3 := hbr3.out.size
        have hz4 := hb3H.out.size
        clear hb3 hg3 hc0
        go_wp2_with fail
        obtain ⟨W3, hW⟩ : ∃ W, W = w3.alloc (Obj.cells #[.int .u64 (t.key : Nat), .int .u64 (t.val : Nat), .int .u64 (t.left : Nat), .int .u64 (t.right : Nat), .int .u64 (t.mark : Nat), .int .u64 (t.size : Nat)] 118) := ⟨_, rfl⟩
        obtain ⟨b3, hb⟩ : ∃ b, b = w3.heap.size := ⟨_, rfl⟩
        have hX3 : Hid (Box W3 b3 118 [.int .u64 (t.key : Nat), .int .u64 (t.val : Nat), .int .u64 (t.left : Nat), .int .u64 (t.right : Nat), .int .u64 (t.mark : Nat), .int .u64 (t.size : Nat)]) := Lib.hid (by rw [hW, hb]; exact Box.new w3 118 [.int .u64 (t.key : Nat), .int .u64 (t.val : Nat), .int .u64 (t.left : Nat), .int .u64 (t.right : Nat), .int .u64 (t.mark : Nat), .int .u64 (t.size : Nat)])
        have hB3 : Hid (Below w.heap.size w W3) := Lib.hid (by rw [hW]; exact hb3H.out.alloc hz4 _)
        have hR3 : Hid (Below w2.heap.size w2 W3) := Lib.hid (by rw [hW]; exact hbr3.out.alloc hz3 _)
        rw [← hW, ← hb]
        clear hW hb hz3 hz4 hb3H hbr3
        have c2 := hX3.out.at' (i := 2) rfl
        have c3 := hX3.out.at' (i := 3) rfl
        go_wp2_with fail
        refine (hBL.out _ hB3.out).mono ?_
        rintro e W4 ⟨rfl, hb⟩
        have hB4H := Lib.hid (hB3.out.trans (hb.mono hB3.out.size))
        have hR4H := Lib.hid (hR3.out.trans (hb.mono hR3.out.size))
        have hX4H := Lib.hid (hX3.out.below hb)
        clear hb hB3 hR3 hX3 c2 c3
        have c2 := hX4H.out.at' (i := 2) rfl
        have c3 := hX4H.out.at' (i := 3) rfl
        cases ry with
        | false =>
          go_wp2_with fail
          refine (hRY.out _ hB4H.out).mono ?_
          rintro e W5 ⟨rfl, hb⟩
          have hB5H := Lib.hid (hB4H.out.trans (hb.mono hB4H.out.size))
          have hR5H := Lib.hid (hR4H.out.trans (hb.mono hR4H.out.size))
          have hX5H := Lib.hid (hX4H.out.below hb)
          clear hb hB4H hR4H hX4H c2 c3
          have c2 := hX5H.out.at' (i := 2) rfl
          have c3 := hX5H.out.at' (i := 3) rfl
          go_wp2_with fail
          refine (hBR.out _ hB5H.out).mono ?_
          rintro e W6 ⟨rfl, hb⟩
          have hB6H := Lib.hid (hB5H.out.trans (hb.mono hB5H.out.size))
          have hR6H := Lib.hid (hR5H.out.trans (hb.mono hR5H.out.size))
          have hX6H := Lib.hid (hX5H.out.below hb)
          clear hb hB5H hR5H hX5H c2 c3
          have c2 := hX6H.out.at' (i := 2) rfl
          have c3 := hX6H.out.at' (i := 3) rfl
          by_cases q1 : br = bl
          · have d1 : ((br : Int) != (bl : Int)) = false := by simp; omega
            go_wp2_with fail
            refine (hBY.out _ hB6H.out).mono ?_
            rintro e W7 ⟨rfl, hb⟩
            have hB7H := Lib.hid (hB6H.out.trans (hb.mono hB6H.out.size))
            have hR7H := Lib.hid (hR6H.out.trans (hb.mono hR6H.out.size))
            have hX7H := Lib.hid (hX6H.out.below hb)
            clear hb hB6H hR6H hX6H c2 c3
            have c2 := hX7H.out.at' (i := 2) rfl
            have c3 := hX7H.out.at' (i := 3) rfl
            by_cases q2 : bh = bl + 1
            · have d2 : ((bh : Int) != ((bl : Int) + 1)) = false := by simp; omega
              go_wp2_with fail
              refine (hRY.out _ hB7H.out).mono ?_
              rintro e W8 ⟨rfl, hb⟩
              have hB8H := Lib.hid (hB7H.out.trans (hb.mono hB7H.out.size))
              have hR8H := Lib.hid (hR7H.out.trans (hb.mono hR7H.out.size))
              have hX8H := Lib.hid (hX7H.out.below hb)
              clear hb hB7H hR7H hX7H c2 c3
              have c2 := hX8H.out.at' (i := 2) rfl
              have c3 := hX8H.out.at' (i := 3) rfl
              have hfin := Lib.hid (hnx.out.trans (show rbBad R y = false by rw [hbdH.out]; simp [q1, q2]))
              have hRf := Lib.hid hR8H.out
              clear hall hnx c2 c3 hX8H hR8H
              go_wp2
              go_roundw
              case rel => exact ⟨k + 1, by omega, by go_num, hRf, hfin⟩
              case measure => simp [intOf]; omega
            · have d2 : ((bh : Int) != ((bl : Int) + 1)) = true := by simp; omega
              have hfin := Lib.hid (hall.out (by rw [hbdH.out]; simp [q2]))
              clear hall hnx c2 c3
              go_wp2
              go_ret
              rw [hvH.out, if_pos hfin.out]
              exact ⟨rfl, hB7H.out⟩
          · have d1 : ((br : Int) != (bl : Int)) = true := by simp; omega
            have hfin := Lib.hid (hall.out (by rw [hbdH.out]; simp [q1]))
            clear hall hnx c2 c3
            go_wp2
            go_ret
            rw [hvH.out, if_pos hfin.out]
            exact ⟨rfl, hB6H.out⟩
        | true =>
          go_wp2_with fail
          refine (hRY.out _ hB4H.out).mono ?_
          rintro e W5 ⟨rfl, hb⟩
          have hB5H := Lib.hid (hB4H.out.trans (hb.mono hB4H.out.size))
          have hR5H := Lib.hid (hR4H.out.trans (hb.mono hR4H.out.size))
          have hX5H := Lib.hid (hX4H.out.below hb)
          clear hb hB4H hR4H hX4H c2 c3
          have c2 := hX5H.out.at' (i := 2) rfl
          have c3 := hX5H.out.at' (i := 3) rfl
          go_wp2_with fail
          refine (hBR.out _ hB5H.out).mono ?_
          rintro e W6 ⟨rfl, hb⟩
          have hB6H := Lib.hid (hB5H.out.trans (hb.mono hB5H.out.size))
          have hR6H := Lib.hid (hR5H.out.trans (hb.mono hR5H.out.size))
          have hX6H := Lib.hid (hX5H.out.below hb)
          clear hb hB5H hR5H hX5H c2 c3
          have c2 := hX6H.out.at' (i := 2) rfl
          have c3 := hX6H.out.at' (i := 3) rfl
          by_cases q1 : br = bl
          · have d1 : ((br : Int) != (bl : Int)) = false := by simp; omega
            go_wp2_with fail
            refine (hBY.out _ hB6H.out).mono ?_
            rintro e W7 ⟨rfl, hb⟩
            have hB7H := Lib.hid (hB6H.out.trans (hb.mono hB6H.out.size))
            have hR7H := Lib.hid (hR6H.out.trans (hb.mono hR6H.out.size))
            have hX7H := Lib.hid (hX6H.out.below hb)
            clear hb hB6H hR6H hX6H c2 c3
            have c2 := hX7H.out.at' (i := 2) rfl
            have c3 := hX7H.out.at' (i := 3) rfl
            by_cases q2 : bh = bl
            · have d2 : ((bh : Int) != (bl : Int)) = false := by simp; omega
              go_wp2_with fail
              refine (hRY.out _ hB7H.out).mono ?_
              rintro e W8 ⟨rfl, hb⟩
              have hB8H := Lib.hid (hB7H.out.trans (hb.mono hB7H.out.size))
              have hR8H := Lib.hid (hR7H.out.trans (hb.mono hR7H.out.size))
              have hX8H := Lib.hid (hX7H.out.below hb)
              clear hb hB7H hR7H hX7H c2 c3
              have c2 := hX8H.out.at' (i := 2) rfl
              have c3 := hX8H.out.at' (i := 3) rfl
              cases rl with
              | true =>
                go_wp2_with fail
                refine (hRL.out _ hB8H.out).mono ?_
                rintro e W9 ⟨rfl, hb⟩
                have hB9H := Lib.hid (hB8H.out.trans (hb.mono hB8H.out.size))
                have hR9H := Lib.hid (hR8H.out.trans (hb.mono hR8H.out.size))
                have hX9H := Lib.hid (hX8H.out.below hb)
                clear hb hB8H hR8H hX8H c2 c3
                have c2 := hX9H.out.at' (i := 2) rfl
                have c3 := hX9H.out.at' (i := 3) rfl
                have hfin := Lib.hid (hall.out (by rw [hbdH.out]; simp))
                clear hall hnx c2 c3
                go_wp2
                go_ret
                rw [hvH.out, if_pos hfin.out]
                exact ⟨rfl, hB9H.out⟩
              | false =>
                go_wp2_with fail
                refine (hRL.out _ hB8H.out).mono ?_
                rintro e W9 ⟨rfl, hb⟩
                have hB9H := Lib.hid (hB8H.out.trans (hb.mono hB8H.out.size))
                have hR9H := Lib.hid (hR8H.out.trans (hb.mono hR8H.out.size))
                have hX9H := Lib.hid (hX8H.out.below hb)
                clear hb hB8H hR8H hX8H c2 c3
                have c2 := hX9H.out.at' (i := 2) rfl
                have c3 := hX9H.out.at' (i := 3) rfl
                cases rr with
                | true =>
                  go_wp2_with fail
                  refine (hRR.out _ hB9H.out).mono ?_
                  rintro e W10 ⟨rfl, hb⟩
                  have hB10H := Lib.hid (hB9H.out.trans (hb.mono hB9H.out.size))
                  have hR10H := Lib.hid (hR9H.out.trans (hb.mono hR9H.out.size))
                  have hX10H := Lib.hid (hX9H.out.below hb)
                  clear hb hB9H hR9H hX9H c2 c3
                  have c2 := hX10H.out.at' (i := 2) rfl
                  have c3 := hX10H.out.at' (i := 3) rfl
                  have hfin := Lib.hid (hall.out (by rw [hbdH.out]; simp))
                  clear hall hnx c2 c3
                  go_wp2
                  go_ret
                  rw [hvH.out, if_pos hfin.out]
                  exact ⟨rfl, hB10H.out⟩
                | false =>
                  go_wp2_with fail
                  refine (hRR.out _ hB9H.out).mono ?_
                  rintro e W10 ⟨rfl, hb⟩
                  have hB10H := Lib.hid (hB9H.out.trans (hb.mono hB9H.out.size))
                  have hR10H := Lib.hid (hR9H.out.trans (hb.mono hR9H.out.size))
                  have hX10H := Lib.hid (hX9H.out.below hb)
                  clear hb hB9H hR9H hX9H c2 c3
                  have c2 := hX10H.out.at' (i := 2) rfl
                  have c3 := hX10H.out.at' (i := 3) rfl
                  have hfin := Lib.hid (hnx.out.trans (show rbBad R y = false by rw [hbdH.out]; simp [q1, q2]))
                  have hRf := Lib.hid hR10H.out
                  clear hall hnx c2 c3 hX10H hR10H
                  go_wp2
                  go_roundw
                  case rel => exact ⟨k + 1, by omega, by go_num, hRf, hfin⟩
                  case measure => simp [intOf]; omega
            · have d2 : ((bh : Int) != (bl : Int)) = true := by simp; omega
              have hfin := Lib.hid (hall.out (by rw [hbdH.out]; simp [q2]))
              clear hall hnx c2 c3
              go_wp2
              go_ret
              rw [hvH.out, if_pos hfin.out]
              exact ⟨rfl, hB7H.out⟩
          · have d1 : ((br : Int) != (bl : Int)) = true := by simp; omega
            have hfin := Lib.hid (hall.out (by rw [hbdH.out]; simp [q1]))
            clear hall hnx c2 c3
            go_wp2
            go_ret
            rw [hvH.out, if_pos hfin.out]
            exact ⟨rfl, hB6H.out⟩
      · obtain rfl : k = L.length := by omega
        have hfin : Hid (L.any (rbBad R) = false) := Lib.hid (by have := hpre.out; rw [List.take_length] at this; exact this)
        go_wp2
        go_ret
        rw [hvH.out, if_neg (by rw [hfin.out]; simp)]
        exact ⟨rfl, hb2H.out.trans (hbr.out.mono hb2H.out.size)⟩
  · have hc8 : c = 8 := by omega
    have dc : ((c : Int) != 0) = true := by rw [hc8]; rfl
    rw [if_pos hc0] at hv
    have hvH := Lib.hid hv
    clear hv hc0 hc9 hc8 h hsh
    go_enter Tryz.func170, Tryz.ntmps170
    go_wp2_with fail
    refine hCkH.out.mono ?_
    rintro e w1 ⟨rfl, hb1⟩
    have hb1H := Lib.hid hb1
    clear hb1 hCkH
    go_wp2
    go_ret
    rw [hvH.out]
    exact ⟨rfl, hb1H.out⟩
end
end Go.Proofs.YtijpmjaeanocpaaGreatDoor

set_option linter.unusedVariables false
set_option linter.unusedSimpArgs false
namespace Go.Proofs.YtijpmjaeanocpaaGreatDoor
open Go.RowKit Go.Shelf
section
variable {w w' : World} {s : Nat} {F : Nat → Prop} {R : Nat → Option (List Nat)} {H : List Nat} {P q most last G : Nat}
theorem rbGood {R : Nat → Option (List Nat)} (h0 : R 0 = none) : ∀ (t : BT), t.At R → t.RB → ∀ x ∈ t.nodes, rbBad R x = false
  | .nil, _, _, x, hx => by simp [BT.nodes] at hx
  | .node y kx vx m k v l r, ht, ha, x, hx => by
    have hl := ht.2.2.2.2.2.2.1
    have hr := ht.2.2.2.2.2.2.2
    obtain ⟨a1, a2, al, ar⟩ := ha
    simp only [BT.nodes, List.mem_append, List.mem_cons] at hx
    rcases hx with hx | hx | hx
    · exact rbGood h0 l hl al x hx
    · subst hx
      have g := (nodeR_at ht.2.1).2
      obtain ⟨l1, l2⟩ := BT.rbB_at hl h0
      obtain ⟨r1, r2⟩ := BT.rbB_at hr h0
      have m1 : rbB R x = m / 2 := by unfold rbB; rw [g]
      have m2 : rbRed R x = (m % 2 == 1) := by unfold rbRed; rw [g]
      have b1 : rbBad1 R x = false := by unfold rbBad1; rw [g, l1, r1, a2]; exact bne_self_eq_false _
      have b2 : rbBad2 R x = false := by
        unfold rbBad2
        rw [g, l1, m1, m2]
        rcases a1 with e | ⟨e, _, _⟩
        · rw [e, show (2 * l.bh + 2) / 2 = l.bh + 1 by omega, show (2 * l.bh + 2) % 2 = 0 by omega]
          exact bne_self_eq_false _
        · rw [e, show (2 * l.bh + 1) / 2 = l.bh by omega, show (2 * l.bh + 1) % 2 = 1 by omega]
          exact bne_self_eq_false _
      have b3 : rbBad3 R x = false := by
        unfold rbBad3
        rw [g, l2, r2, m2]
        rcases a1 with e | ⟨e, e1, e2⟩
        · rw [e, show (2 * l.bh + 2) % 2 = 0 by omega]
          rfl
        · rw [e1, e2]
          simp
      unfold rbBad
      rw [b1, b2, b3]
      rfl
    · exact rbGood h0 r hr ar x hx
theorem trbCheck_at {N n : Nat} {t : BT} {l : List Pr} (h : TreeR N w s R n t l) (ha : t.RB) : Calls Tryz.prog 170 #[.pointer (some ⟨s, 0, none⟩), .int .u64 (t.root : Nat)] w fun e w' => e = .returned (.int .i64 0) ∧ Below w.heap.size w w' := by
  have h1 := h.rd.le
  have h2 := h.sz
  have hf := rbCheck_at h.rd h.sh t.root h.root_lt
  have hz : rcheckR R n t.root = 0 := by
    unfold rcheckR
    rw [BT.check_at h.at' (by rw [h.prs]; exact h.ris) h.nod (n := n) (by omega) (by omega), BT.inR_at h.at' (n := n) (by omega)]
    rw [if_neg (by simp), if_neg]
    rw [List.any_eq_true]
    rintro ⟨x, hx, hb⟩
    rw [rbGood h.z t h.at' ha x hx] at hb
    cases hb
  rw [hz] at hf
  exact hf
end
end Go.Proofs.YtijpmjaeanocpaaGreatDoor

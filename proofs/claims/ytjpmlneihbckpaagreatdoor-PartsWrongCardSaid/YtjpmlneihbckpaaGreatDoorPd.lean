/-
  The seat's own texts, shared part d: RbW5, RbW6, RbD, PaW1, PaW2, PaW3, PaW4, PaW5.
-/
import Derived.Test.YtjpmlneihbckpaaGreatDoorPc
import Derived.Laws.EntriesVeiled
/- The walks of package redblack: a joiner's top, is, Join. -/
set_option linter.unusedVariables false
set_option linter.unusedSimpArgs false
namespace Go.Proofs.YtjpmlneihbckpaaGreatDoor
open Go.RowKit Go.Shelf
set_option maxRecDepth 100000 in
theorem rbIs_at {w : World} {s N : Nat} {R : Nat → Option (List Nat)} {n : Nat} (h : Rd N w s R n) (x : Nat) (hx : x < 18446744073709551616) : Calls Tryz.prog 56 #[.pointer (some ⟨s, 0, none⟩), .int .u64 (x : Nat)] w fun e w' => e = .returned (.bool (isR R x)) ∧ Below w.heap.size w w' := by
  obtain ⟨nd, hnd⟩ : ∃ nd, nodeG R x = nd := ⟨_, rfl⟩
  obtain ⟨z, hz⟩ : ∃ z, nodeE R x = z := ⟨_, rfl⟩
  have hG := Lib.hid (nget_lit h x hx nd hnd z hz)
  have hv : isR R x = (x == 0 || z == 0) := by unfold isR; rw [hz]
  by_cases h0 : x = 0
  · have d : ((x : Int) == 0) = true := by simp; omega
    have hv2 : Hid (isR R x = true) := Lib.hid (by rw [hv, h0]; rfl)
    clear h hnd hz hv h0
    go_enter Tryz.func56, Tryz.ntmps56
    go_wp2_with fail
    refine hG.out.mono ?_
    rintro e w1 ⟨rfl, hb⟩
    have hbH := Lib.hid hb
    have hz1 := hb.size
    clear hb
    go_wp2
    go_ret
    exact ⟨by rw [hv2.out]; rfl, hbH.out.alloc hz1 _⟩
  · have d : ((x : Int) == 0) = false := by simp; omega
    have hv2 : Hid (isR R x = (z == 0)) := Lib.hid (by rw [hv]; simp [h0])
    have hzz : z = 0 ∨ z ≠ 0 := by omega
    rcases hzz with hz0 | hz0
    · have d2 : ((z : Int) == 0) = true := by simp; omega
      have hv3 : Hid (isR R x = true) := Lib.hid (by rw [hv2.out, hz0]; rfl)
      clear h hnd hz hv h0 hz0
      go_enter Tryz.func56, Tryz.ntmps56
      go_wp2_with fail
      refine hG.out.mono ?_
      rintro e w1 ⟨rfl, hb⟩
      have hbH := Lib.hid hb
      have hz1 := hb.size
      clear hb
      go_wp2
      go_ret
      exact ⟨by rw [hv3.out]; rfl, hbH.out.alloc hz1 _⟩
    · have d2 : ((z : Int) == 0) = false := by simp; omega
      have hv3 : Hid (isR R x = false) := Lib.hid (by rw [hv2.out]; simpa using hz0)
      clear h hnd hz hv h0 hz0
      go_enter Tryz.func56, Tryz.ntmps56
      go_wp2_with fail
      refine hG.out.mono ?_
      rintro e w1 ⟨rfl, hb⟩
      have hbH := Lib.hid hb
      have hz1 := hb.size
      clear hb
      go_wp2
      go_ret
      exact ⟨by rw [hv3.out]; rfl, hbH.out.alloc hz1 _⟩
section
variable {w w' : World} {s : Nat} {F : Nat → Prop} {R : Nat → Option (List Nat)} {H : List Nat} {P q most last G : Nat}
set_option maxHeartbeats 4000000 in
set_option maxRecDepth 100000 in
theorem rbJTop_at (h : StoreIs w s F R H P q most last G) (tn : Bool) (t m low : Nat) (ht : t < 18446744073709551616) (hm : m < 18446744073709551616) (hlow : low < 18446744073709551616) :
    Calls Tryz.prog 57 #[.agg #[.pointer (some ⟨s, 0, none⟩), .bool tn], .int .u64 (t : Nat), .int .u64 (m : Nat), .int .u64 (low : Nat)] w fun e w' => e = .returned (.int .u64 ((rbTop tn R t m low).2 : Nat)) ∧ StoreIs w' s F (rbTop tn R t m low).1 H P q most last G ∧ Turn w F w' F := by
  have hX0 := Box.new w 104 [.pointer (some ⟨s, 0, none⟩), .bool tn]
  obtain ⟨W0, hW0⟩ : ∃ W, W = w.alloc (Obj.cells #[.pointer (some ⟨s, 0, none⟩), .bool tn] 104) := ⟨_, rfl⟩
  have hb0 : Below w.heap.size w W0 := by rw [hW0]; exact (Below.refl _ w).alloc (Nat.le_refl _) _
  rw [← hW0] at hX0
  have hFb0 : ¬ F w.heap.size := fun hf => by have := h.lt hf; omega
  have hS0 := h.below hb0
  have c0 := hX0.at' (i := 0) rfl
  have c1 := hX0.at' (i := 1) rfl
  have hX0H := Lib.hid hX0
  have hT0H : Hid (Turn w F W0 F) := Lib.hid (Turn.below hb0)
  have hW0H := Lib.hid hW0
  have hJ : Calls Tryz.prog 84 #[.agg #[.pointer (some ⟨s, 0, none⟩), .bool tn], .int .u64 (t : Nat), .int .u64 (m : Nat), .int .u64 (low : Nat), .int .i64 0] W0 _ := rbJoin_at tn m low hm hlow 200 W0 R t (Nat.le_refl _) ht hS0
  have hv : rbTop tn R t m low = if rbRed (rbJoin tn m low 200 R t).1 (rbJoin tn m low 200 R t).2 = true ∧ rbRed (rbJoin tn m low 200 R t).1 (rbSides (rbJoin tn m low 200 R t).1 tn (rbJoin tn m low 200 R t).2).2 = true then (rbPutT (rbJoin tn m low 200 R t).1 tn (rbJoin tn m low 200 R t).2 (rbSides (rbJoin tn m low 200 R t).1 tn (rbJoin tn m low 200 R t).2).1 (rbSides (rbJoin tn m low 200 R t).1 tn (rbJoin tn m low 200 R t).2).2 false, (rbJoin tn m low 200 R t).2) else rbJoin tn m low 200 R t := rfl
  generalize rbJoin tn m low 200 R t = p at *
  obtain ⟨Ra, y⟩ := p
  simp only at hJ hv
  have hvH := Lib.hid hv
  have hJH := Lib.hid hJ
  clear h hX0 hb0 hW0 hS0 hJ hv
  go_enter Tryz.func57, Tryz.ntmps57
  go_wp2_with fail
  rw [← hW0H.out]
  go_wp2_with fail
  refine hJH.out.mono ?_
  rintro e W1 ⟨rfl, hy, hS1, hT1⟩
  have hX1H := Lib.hid (hX0H.out.turn hT1 hFb0)
  have hT1H := Lib.hid (hT0H.out.trans hT1)
  obtain ⟨n1, hr1, _⟩ := hS1.rd
  have hS1H := Lib.hid hS1
  have hr1H := Lib.hid hr1
  have hol := rbSides_lt hr1 tn y
  have hSd := rbSides_at hr1 tn y hy
  clear hJH hS1 hT1 hr1 c0 c1 hX0H hT0H
  have c0 := hX1H.out.at' (i := 0) rfl
  have c1 := hX1H.out.at' (i := 1) rfl
  have hRy := Lib.hid (fun W (hb : Below W1.heap.size W1 W) => rbRed_at (hr1H.out.below hb) y hy)
  have hRo := Lib.hid (fun W (hb : Below W1.heap.size W1 W) => rbRed_at (hr1H.out.below hb) (rbSides Ra tn y).2 hol.2)
  generalize rbSides Ra tn y = oo at *
  obtain ⟨ot, ow⟩ := oo
  simp only at hol hRo hSd
  obtain ⟨hot, how⟩ := hol
  have hSdH := Lib.hid hSd
  clear hSd hr1H
  go_wp2_with fail
  refine hSdH.out.mono ?_
  rintro e W2 ⟨rfl, hb2⟩
  have hX2H := Lib.hid (hX1H.out.below hb2)
  have hb2H := Lib.hid hb2
  clear hb2 hSdH c0 c1
  have c0 := hX2H.out.at' (i := 0) rfl
  have c1 := hX2H.out.at' (i := 1) rfl
  cases h1 : rbRed Ra y with
  | false =>
    have hv2 : Hid (rbTop tn R t m low = (Ra, y)) := Lib.hid (by rw [hvH.out, if_neg (by rw [h1]; simp)])
    have hq := Lib.hid (hRy.out W2 hb2H.out)
    rw [h1] at hq
    clear h1 hvH hRy hRo
    go_wp2_with fail
    refine hq.out.mono ?_
    rintro e W3 ⟨rfl, hb3⟩
    have hb3H := Lib.hid (hb2H.out.trans (hb3.mono hb2H.out.size))
    clear hb3 hq c0 c1
    go_wp2
    go_ret
    rw [hv2.out]
    exact ⟨rfl, hS1H.out.below hb3H.out, hT1H.out.trans (Turn.below hb3H.out)⟩
  | true =>
    have hq := Lib.hid (hRy.out W2 hb2H.out)
    rw [h1] at hq
    cases h2 : rbRed Ra ow with
    | false =>
      have hv2 : Hid (rbTop tn R t m low = (Ra, y)) := Lib.hid (by rw [hvH.out, if_neg (by rw [h2]; simp)])
      have hq2 := Lib.hid (fun W (hb : Below W1.heap.size W1 W) => hRo.out W hb)
      rw [h2] at hq2
      clear h1 h2 hvH hRy hRo
      go_wp2_with fail
      refine hq.out.mono ?_
      rintro e W3 ⟨rfl, hb3⟩
      have hb3H := Lib.hid (hb2H.out.trans (hb3.mono hb2H.out.size))
      have hX3H := Lib.hid (hX2H.out.below hb3)
      clear hb3 hq c0 c1 hX2H hb2H
      have c0 := hX3H.out.at' (i := 0) rfl
      have c1 := hX3H.out.at' (i := 1) rfl
      go_wp2_with fail
      refine (hq2.out W3 hb3H.out).mono ?_
      rintro e W4 ⟨rfl, hb4⟩
      have hb4H := Lib.hid (hb3H.out.trans (hb4.mono hb3H.out.size))
      have hX4H := Lib.hid (hX3H.out.below hb4)
      clear hb4 hq2 c0 c1 hX3H hb3H
      go_wp2
      go_ret
      rw [hv2.out]
      exact ⟨rfl, hS1H.out.below hb4H.out, hT1H.out.trans (Turn.below hb4H.out)⟩
    | true =>
      have hv2 := Lib.hid (hvH.out.trans (if_pos ⟨h1, h2⟩))
      have hq2 := Lib.hid (fun W (hb : Below W1.heap.size W1 W) => hRo.out W hb)
      rw [h2] at hq2
      clear h1 h2 hvH hRy hRo
      go_wp2_with fail
      refine hq.out.mono ?_
      rintro e W3 ⟨rfl, hb3⟩
      have hb3H := Lib.hid (hb2H.out.trans (hb3.mono hb2H.out.size))
      have hX3H := Lib.hid (hX2H.out.below hb3)
      clear hb3 hq c0 c1 hX2H hb2H
      have c0 := hX3H.out.at' (i := 0) rfl
      have c1 := hX3H.out.at' (i := 1) rfl
      go_wp2_with fail
      refine (hq2.out W3 hb3H.out).mono ?_
      rintro e W4 ⟨rfl, hb4⟩
      have hb4H := Lib.hid (hb3H.out.trans (hb4.mono hb3H.out.size))
      have hX4H := Lib.hid (hX3H.out.below hb4)
      clear hb4 hq2 c0 c1 hX3H hb3H
      have c0 := hX4H.out.at' (i := 0) rfl
      have c1 := hX4H.out.at' (i := 1) rfl
      have hP := Lib.hid (rbPutT_at (hS1H.out.below hb4H.out) tn y ot ow hy hot how false)
      go_wp2_with fail
      refine hP.out.mono ?_
      rintro e W5 ⟨rfl, hS5, hT5⟩
      have hS5H := Lib.hid hS5
      have hT5H := Lib.hid ((hT1H.out.trans (Turn.below hb4H.out)).trans hT5)
      clear hS5 hT5 hP c0 c1
      go_wp2
      go_ret
      rw [hv2.out]
      exact ⟨rfl, hS5H.out, hT5H.out⟩
set_option maxHeartbeats 4000000 in
set_option maxRecDepth 100000 in
theorem rbTop_at (h : StoreIs w s F R H P q most last G) (l m r : Nat) (hl : l < 18446744073709551616) (hm : m < 18446744073709551616) (hr : r < 18446744073709551616) :
    Calls Tryz.prog 24 #[.pointer (some ⟨s, 0, none⟩), .int .u64 (l : Nat), .int .u64 (m : Nat), .int .u64 (r : Nat)] w fun e w' => e = .returned (.tuple #[.int .u64 ((rbJ R l m r).2.1 : Nat), .int .i64 ((rbJ R l m r).2.2 : Nat)]) ∧ StoreIs w' s F (rbJ R l m r).1 H P q most last G ∧ Turn w F w' F := by
  obtain ⟨n, hrd, _⟩ := h.rd
  have hLen := rlen_at hrd 0 (by omega)
  have hI := Lib.hid (fun W (hb : Below w.heap.size w W) y (hy : y < 18446744073709551616) => rbIs_at (hrd.below hb) y hy)
  have hBk := Lib.hid (fun W (hb : Below w.heap.size w W) y (hy : y < 18446744073709551616) => rbBlack_at (hrd.below hb) y hy)
  have hRe := Lib.hid (fun W (hb : Below w.heap.size w W) y (hy : y < 18446744073709551616) => rbRed_at (hrd.below hb) y hy)
  have hHs := Lib.hid h
  obtain ⟨lv, hlv, hle⟩ : ∃ (a b : Nat), lenR R 0 = .tuple #[.int .i64 (a : Nat), .int .i64 (b : Nat)] ∧ b ≠ 1 := by
    unfold lenR
    cases R 0 with
    | none => exact ⟨0, 7, rfl, by decide⟩
    | some ws => exact ⟨ws.length, 0, rfl, by decide⟩
  rw [hle.1] at hLen
  have hl1 := hle.2
  have dl : ((hlv : Int) == 1) = false := by simp; omega
  have hLenH := Lib.hid hLen
  clear h hrd hLen hle
  have fin : ∀ (hc : ¬ (m ≠ 0 ∧ isR R l = true ∧ isR R m = true ∧ isR R r = true)), Hid (rbJ R l m r = (R, 0, 8)) := fun hc => Lib.hid (rbJ_no hc)
  by_cases hm0 : m = 0
  · have d0 : ((m : Int) == 0) = true := by simp; omega
    have hv := fin (fun hc => hc.1 hm0)
    clear fin hm0
    go_enter Tryz.func24, Tryz.ntmps24
    go_wp2_with fail
    refine hLenH.out.mono ?_
    rintro e w1 ⟨rfl, rfl⟩
    go_wp2
    go_ret2
    rw [hv.out]
    exact ⟨rfl, hHs.out, Turn.refl _ _⟩
  · have d0 : ((m : Int) == 0) = false := by simp; omega
    cases h1 : isR R l with
    | false =>
      have hv := fin (fun hc => by rw [h1] at hc; cases hc.2.1)
      have hi1 := Lib.hid (hI.out w (Below.refl _ _) l hl)
      rw [h1] at hi1
      clear fin h1 hm0 hI
      go_enter Tryz.func24, Tryz.ntmps24
      go_wp2_with fail
      refine hLenH.out.mono ?_
      rintro e w1 ⟨rfl, rfl⟩
      go_wp2_with fail
      refine hi1.out.mono ?_
      rintro e w1 ⟨rfl, hb1⟩
      have hb1H := Lib.hid hb1
      clear hb1
      go_wp2
      go_ret2
      rw [hv.out]
      exact ⟨rfl, hHs.out.below hb1H.out, Turn.below hb1H.out⟩
    | true =>
      have hi1 := Lib.hid (hI.out w (Below.refl _ _) l hl)
      have hi2 := Lib.hid (fun W (hb : Below w.heap.size w W) => hI.out W hb m hm)
      rw [h1] at hi1
      cases h2 : isR R m with
      | false =>
        have hv := fin (fun hc => by rw [h2] at hc; cases hc.2.2.1)
        rw [h2] at hi2
        clear fin h1 h2 hm0 hI
        go_enter Tryz.func24, Tryz.ntmps24
        go_wp2_with fail
        refine hLenH.out.mono ?_
        rintro e w1 ⟨rfl, rfl⟩
        go_wp2_with fail
        refine hi1.out.mono ?_
        rintro e w1 ⟨rfl, hb1⟩
        have hb1H := Lib.hid hb1
        clear hb1
        go_wp2_with fail
        refine (hi2.out _ hb1H.out).mono ?_
        rintro e w2 ⟨rfl, hb2⟩
        have hb2H := Lib.hid (hb1H.out.trans (hb2.mono hb1H.out.size))
        clear hb2
        go_wp2
        go_ret2
        rw [hv.out]
        exact ⟨rfl, hHs.out.below hb2H.out, Turn.below hb2H.out⟩
      | true =>
        have hi3 := Lib.hid (fun W (hb : Below w.heap.size w W) => hI.out W hb r hr)
        rw [h2] at hi2
        cases h3 : isR R r with
        | false =>
          have hv := fin (fun hc => by rw [h3] at hc; cases hc.2.2.2)
          rw [h3] at hi3
          clear fin h1 h2 h3 hm0 hI
          go_enter Tryz.func24, Tryz.ntmps24
          go_wp2_with fail
          refine hLenH.out.mono ?_
          rintro e w1 ⟨rfl, rfl⟩
          go_wp2_with fail
          refine hi1.out.mono ?_
          rintro e w1 ⟨rfl, hb1⟩
          have hb1H := Lib.hid hb1
          clear hb1
          go_wp2_with fail
          refine (hi2.out _ hb1H.out).mono ?_
          rintro e w2 ⟨rfl, hb2⟩
          have hb2H := Lib.hid (hb1H.out.trans (hb2.mono hb1H.out.size))
          clear hb2
          go_wp2_with fail
          refine (hi3.out _ hb2H.out).mono ?_
          rintro e w3 ⟨rfl, hb3⟩
          have hb3H := Lib.hid (hb2H.out.trans (hb3.mono hb2H.out.size))
          clear hb3
          go_wp2
          go_ret2
          rw [hv.out]
          exact ⟨rfl, hHs.out.below hb3H.out, Turn.below hb3H.out⟩
        | true =>
          have hv := Lib.hid (rbJ_yes (R := R) (l := l) (m := m) (r := r) ⟨hm0, h1, h2, h3⟩)
          have hall : Hid (rbAll R l m r = if rbB R r < rbB R l then rbTop false R l m r else if rbB R l < rbB R r then rbTop true R r m l else (rbPut R m l r (!rbRed R l && !rbRed R r), m)) := Lib.hid rfl
          have hTA := Lib.hid (fun W (hb : Below w.heap.size w W) => rbJTop_at (hHs.out.below hb) false l m r hl hm hr)
          have hTB := Lib.hid (fun W (hb : Below w.heap.size w W) => rbJTop_at (hHs.out.below hb) true r m l hr hm hl)
          have hPu := Lib.hid (fun W (hb : Below w.heap.size w W) => rbPut_at (hHs.out.below hb) m l r hm hl hr (!rbRed R l && !rbRed R r))
          have hB1 := Lib.hid (fun W (hb : Below w.heap.size w W) => hBk.out W hb l hl)
          have hB2 := Lib.hid (fun W (hb : Below w.heap.size w W) => hBk.out W hb r hr)
          have hR1 := Lib.hid (fun W (hb : Below w.heap.size w W) => hRe.out W hb l hl)
          have hR2 := Lib.hid (fun W (hb : Below w.heap.size w W) => hRe.out W hb r hr)
          rw [h3] at hi3
          generalize rbTop false R l m r = pa at *
          generalize rbTop true R r m l = pb at *
          generalize rbPut R m l r (!rbRed R l && !rbRed R r) = Rp at *
          generalize rbB R l = b1 at *
          generalize rbB R r = b2 at *
          generalize rbRed R l = r1 at *
          generalize rbRed R r = r2 at *
          clear fin h1 h2 h3 hm0 hI hBk hRe
          by_cases q1 : b2 < b1
          · have d1 : decide (b2 < b1) = true := decide_eq_true q1
            have hall2 := Lib.hid (hall.out.trans (if_pos q1))
            clear q1 hall
            go_enter Tryz.func24, Tryz.ntmps24
            go_wp2_with fail
            refine hLenH.out.mono ?_
            rintro e w1 ⟨rfl, rfl⟩
            go_wp2_with fail
            refine hi1.out.mono ?_
            rintro e w1 ⟨rfl, hb1⟩
            have hb1H := Lib.hid hb1
            clear hb1
            go_wp2_with fail
            refine (hi2.out _ hb1H.out).mono ?_
            rintro e w2 ⟨rfl, hb2⟩
            have hb2H := Lib.hid (hb1H.out.trans (hb2.mono hb1H.out.size))
            clear hb2
            go_wp2_with fail
            refine (hi3.out _ hb2H.out).mono ?_
            rintro e w3 ⟨rfl, hb3⟩
            have hb3H := Lib.hid (hb2H.out.trans (hb3.mono hb2H.out.size))
            clear hb3
            go_wp2_with fail
            refine (hB1.out _ hb3H.out).mono ?_
            rintro e w4 ⟨rfl, hb4⟩
            have hb4H := Lib.hid (hb3H.out.trans (hb4.mono hb3H.out.size))
            clear hb4
            go_wp2_with fail
            refine (hB2.out _ hb4H.out).mono ?_
            rintro e w5 ⟨rfl, hb5⟩
            have hb5H := Lib.hid (hb4H.out.trans (hb5.mono hb4H.out.size))
            clear hb5
            go_wp2_with fail
            refine (hTA.out _ hb5H.out).mono ?_
            rintro e w6 ⟨rfl, hS6, hT6⟩
            have hS6H := Lib.hid hS6
            have hT6H := Lib.hid ((Turn.below (F := F) hb5H.out).trans hT6)
            clear hS6 hT6
            go_wp2
            go_ret2
            rw [hv.out, okW_1, okW_2, okW_3, hall2.out]
            exact ⟨rfl, hS6H.out, hT6H.out⟩
          · have d1 : decide (b2 < b1) = false := decide_eq_false q1
            by_cases q2 : b1 < b2
            · have d2 : decide (b1 < b2) = true := decide_eq_true q2
              have hall2 := Lib.hid ((hall.out.trans (if_neg q1)).trans (if_pos q2))
              clear q1 q2 hall
              go_enter Tryz.func24, Tryz.ntmps24
              go_wp2_with fail
              refine hLenH.out.mono ?_
              rintro e w1 ⟨rfl, rfl⟩
              go_wp2_with fail
              refine hi1.out.mono ?_
              rintro e w1 ⟨rfl, hb1⟩
              have hb1H := Lib.hid hb1
              clear hb1
              go_wp2_with fail
              refine (hi2.out _ hb1H.out).mono ?_
              rintro e w2 ⟨rfl, hb2⟩
              have hb2H := Lib.hid (hb1H.out.trans (hb2.mono hb1H.out.size))
              clear hb2
              go_wp2_with fail
              refine (hi3.out _ hb2H.out).mono ?_
              rintro e w3 ⟨rfl, hb3⟩
              have hb3H := Lib.hid (hb2H.out.trans (hb3.mono hb2H.out.size))
              clear hb3
              go_wp2_with fail
              refine (hB1.out _ hb3H.out).mono ?_
              rintro e w4 ⟨rfl, hb4⟩
              have hb4H := Lib.hid (hb3H.out.trans (hb4.mono hb3H.out.size))
              clear hb4
              go_wp2_with fail
              refine (hB2.out _ hb4H.out).mono ?_
              rintro e w5 ⟨rfl, hb5⟩
              have hb5H := Lib.hid (hb4H.out.trans (hb5.mono hb4H.out.size))
              clear hb5
              go_wp2_with fail
              refine (hTB.out _ hb5H.out).mono ?_
              rintro e w6 ⟨rfl, hS6, hT6⟩
              have hS6H := Lib.hid hS6
              have hT6H := Lib.hid ((Turn.below (F := F) hb5H.out).trans hT6)
              clear hS6 hT6
              go_wp2
              go_ret2
              rw [hv.out, okW_1, okW_2, okW_3, hall2.out]
              exact ⟨rfl, hS6H.out, hT6H.out⟩
            · have d2 : decide (b1 < b2) = false := decide_eq_false q2
              have hall2 := Lib.hid ((hall.out.trans (if_neg q1)).trans (if_neg q2))
              clear q1 q2 hall
              cases r1 with
              | true =>
                go_enter Tryz.func24, Tryz.ntmps24
                go_wp2_with fail
                refine hLenH.out.mono ?_
                rintro e w1 ⟨rfl, rfl⟩
                go_wp2_with fail
                refine hi1.out.mono ?_
                rintro e w1 ⟨rfl, hb1⟩
                have hb1H := Lib.hid hb1
                clear hb1
                go_wp2_with fail
                refine (hi2.out _ hb1H.out).mono ?_
                rintro e w2 ⟨rfl, hb2⟩
                have hb2H := Lib.hid (hb1H.out.trans (hb2.mono hb1H.out.size))
                clear hb2
                go_wp2_with fail
                refine (hi3.out _ hb2H.out).mono ?_
                rintro e w3 ⟨rfl, hb3⟩
                have hb3H := Lib.hid (hb2H.out.trans (hb3.mono hb2H.out.size))
                clear hb3
                go_wp2_with fail
                refine (hB1.out _ hb3H.out).mono ?_
                rintro e w4 ⟨rfl, hb4⟩
                have hb4H := Lib.hid (hb3H.out.trans (hb4.mono hb3H.out.size))
                clear hb4
                go_wp2_with fail
                refine (hB2.out _ hb4H.out).mono ?_
                rintro e w5 ⟨rfl, hb5⟩
                have hb5H := Lib.hid (hb4H.out.trans (hb5.mono hb4H.out.size))
                clear hb5
                go_wp2_with fail
                refine (hR1.out _ hb5H.out).mono ?_
                rintro e w6 ⟨rfl, hb6⟩
                have hb6H := Lib.hid (hb5H.out.trans (hb6.mono hb5H.out.size))
                clear hb6
                have hPu2 : Hid (∀ W, Below w.heap.size w W → Calls Tryz.prog 58 #[.pointer (some ⟨s, 0, none⟩), .int .u64 (m : Nat), .int .u64 (l : Nat), .int .u64 (r : Nat), .bool false] W _) := hPu
                clear hPu
                go_wp2_with fail
                refine (hPu2.out _ hb6H.out).mono ?_
                rintro e w7 ⟨rfl, hS7, hT7⟩
                have hS7H := Lib.hid hS7
                have hT7H := Lib.hid ((Turn.below (F := F) hb6H.out).trans hT7)
                clear hS7 hT7
                go_wp2
                go_ret2
                rw [hv.out, okW_1, okW_2, okW_3, hall2.out]
                exact ⟨rfl, hS7H.out, hT7H.out⟩
              | false =>
                go_enter Tryz.func24, Tryz.ntmps24
                go_wp2_with fail
                refine hLenH.out.mono ?_
                rintro e w1 ⟨rfl, rfl⟩
                go_wp2_with fail
                refine hi1.out.mono ?_
                rintro e w1 ⟨rfl, hb1⟩
                have hb1H := Lib.hid hb1
                clear hb1
                go_wp2_with fail
                refine (hi2.out _ hb1H.out).mono ?_
                rintro e w2 ⟨rfl, hb2⟩
                have hb2H := Lib.hid (hb1H.out.trans (hb2.mono hb1H.out.size))
                clear hb2
                go_wp2_with fail
                refine (hi3.out _ hb2H.out).mono ?_
                rintro e w3 ⟨rfl, hb3⟩
                have hb3H := Lib.hid (hb2H.out.trans (hb3.mono hb2H.out.size))
                clear hb3
                go_wp2_with fail
                refine (hB1.out _ hb3H.out).mono ?_
                rintro e w4 ⟨rfl, hb4⟩
                have hb4H := Lib.hid (hb3H.out.trans (hb4.mono hb3H.out.size))
                clear hb4
                go_wp2_with fail
                refine (hB2.out _ hb4H.out).mono ?_
                rintro e w5 ⟨rfl, hb5⟩
                have hb5H := Lib.hid (hb4H.out.trans (hb5.mono hb4H.out.size))
                clear hb5
                go_wp2_with fail
                refine (hR1.out _ hb5H.out).mono ?_
                rintro e w6 ⟨rfl, hb6⟩
                have hb6H := Lib.hid (hb5H.out.trans (hb6.mono hb5H.out.size))
                clear hb6
                have hPu2 : Hid (∀ W, Below w.heap.size w W → Calls Tryz.prog 58 #[.pointer (some ⟨s, 0, none⟩), .int .u64 (m : Nat), .int .u64 (l : Nat), .int .u64 (r : Nat), .bool (!r2)] W _) := hPu
                clear hPu
                go_wp2_with fail
                refine (hR2.out _ hb6H.out).mono ?_
                rintro e w7 ⟨rfl, hb7⟩
                have hb7H := Lib.hid (hb6H.out.trans (hb7.mono hb6H.out.size))
                clear hb7
                go_wp2_with fail
                refine (hPu2.out _ hb7H.out).mono ?_
                rintro e w8 ⟨rfl, hS8, hT8⟩
                have hS8H := Lib.hid hS8
                have hT8H := Lib.hid ((Turn.below (F := F) hb7H.out).trans hT8)
                clear hS8 hT8
                go_wp2
                go_ret2
                rw [hv.out, okW_1, okW_2, okW_3, hall2.out]
                exact ⟨rfl, hS8H.out, hT8H.out⟩
end
end Go.Proofs.YtjpmlneihbckpaaGreatDoor
/- The walks of package redblack: Check. -/
set_option linter.unusedVariables false
set_option linter.unusedSimpArgs false
namespace Go.Proofs.YtjpmlneihbckpaaGreatDoor
open Go.RowKit Go.Shelf
/-- what Check finds wrong with a node: its sides' black heights, its own, two red ones in a row -/
def rbBad1 (R : Nat → Option (List Nat)) (x : Nat) : Bool := rbB R (nodeG R x).right != rbB R (nodeG R x).left
def rbBad2 (R : Nat → Option (List Nat)) (x : Nat) : Bool := rbB R x != (if rbRed R x then rbB R (nodeG R x).left else rbB R (nodeG R x).left + 1)
def rbBad3 (R : Nat → Option (List Nat)) (x : Nat) : Bool := rbRed R x && (rbRed R (nodeG R x).left || rbRed R (nodeG R x).right)
def rbBad (R : Nat → Option (List Nat)) (x : Nat) : Bool := rbBad1 R x || rbBad2 R x || rbBad3 R x
/-- what Check answers -/
def rcheckR (R : Nat → Option (List Nat)) (n root : Nat) : Nat := if checkR R n root ≠ 0 then checkR R n root else if (inR R n root).any (rbBad R) then 8 else 0
section
variable {w w' : World} {s N : Nat} {R : Nat → Option (List Nat)} {n : Nat}
set_option maxHeartbeats 4000000 in
set_option maxRecDepth 100000 in
theorem rbCheck_at (h : Rd N w s R n) (hsh : Short R) (x : Nat) (hx : x < 18446744073709551616) :
    Calls Tryz.prog 21 #[.pointer (some ⟨s, 0, none⟩), .int .u64 (x : Nat)] w fun e w' => e = .returned (.int .i64 (rcheckR R n x : Nat)) ∧ Below w.heap.size w w' := by
  have hCk := check_at h hsh x hx
  have hLi := Lib.hid (fun W (hb : Below w.heap.size w W) => list_at (h.below hb) x hx)
  have hGt := Lib.hid (fun W (hb : Below w.heap.size w W) y (hy : y < 18446744073709551616) nd (hnd : nodeG R y = nd) => rbGet_at (h.below hb) y hy nd hnd)
  have hBk := Lib.hid (fun W (hb : Below w.heap.size w W) y (hy : y < 18446744073709551616) => rbBlack_at (h.below hb) y hy)
  have hRe := Lib.hid (fun W (hb : Below w.heap.size w W) y (hy : y < 18446744073709551616) => rbRed_at (h.below hb) y hy)
  have hokG := Lib.hid (fun y => h.nodeG y)
  have hBl : Hid (∀ y, rbB R y < 9223372036854775808) := Lib.hid (fun y => by have := (h.nodeG y).mark; unfold rbB; omega)
  have hlen := inR_len R n x
  have hnle := h.le
  have hLlt := Lib.hid (fun y (hy : y ∈ inR R n x) => inR_lt (fun z => h.nodeG z) hx y hy)
  obtain ⟨c, hc⟩ : ∃ c, checkR R n x = c := ⟨_, rfl⟩
  have hv : rcheckR R n x = if c ≠ 0 then c else if (inR R n x).any (rbBad R) then 8 else 0 := by unfold rcheckR; rw [hc]
  have hc9 : c = 0 ∨ c = 8 := by rw [← hc]; exact checkR_val R n x
  rw [hc] at hCk
  have hCkH := Lib.hid hCk
  generalize inR R n x = L at *
  clear hCk hc
  by_cases hc0 : c = 0
  · have dc : ((c : Int) != 0) = false := by rw [hc0]; rfl
    rw [if_neg (by simp [hc0])] at hv
    have hvH := Lib.hid hv
    clear hv hc0 hc9 h hsh
    go_enter Tryz.func21, Tryz.ntmps21
    go_wp2_with fail
    refine hCkH.out.mono ?_
    rintro e w1 ⟨rfl, hb1⟩
    have hb1H := Lib.hid hb1
    clear hb1 hCkH
    go_wp2_with fail
    refine (hLi.out _ hb1H.out).mono ?_
    rintro e w2 ⟨v, rfl, hro, hb2⟩
    obtain ⟨A2, c2, rfl⟩ := ownsRow_form hro
    have hb2H := Lib.hid (hb1H.out.trans (hb2.mono hb1H.out.size))
    have hcl : Hid (∀ i (hi : i < L.length), ∃ g, A2 = some ⟨g, 0, none⟩ ∧ ∀ W, Below w2.heap.size w2 W → W.cell? ⟨g, i, none⟩ = some (.int .u64 (L[i] : Nat))) := Lib.hid (fun i hi => by
      obtain ⟨g, cap, hv⟩ := row_pos hro (by omega)
      cases hv
      refine ⟨g, rfl, fun W hb => ?_⟩
      have h1 := hro.cells (g := g) rfl i (.int .u64 (L[i] : Nat)) (by rw [hsV, List.getElem?_map, List.getElem?_eq_getElem hi]; rfl)
      rw [show (⟨g, 0, none⟩ : Addr).add i = ⟨g, i, none⟩ by unfold Addr.add; split <;> simp_all] at h1
      exact (hb.cell (p := ⟨g, i, none⟩) (cell_lt h1)).trans h1)
    clear hro hb2 hLi hb1H
    go_wp2_with fail
    go_loopw [21] (fun iv wr => ∃ k : Nat, k ≤ L.length ∧ iv = .int .i64 k ∧ Hid (Below w2.heap.size w2 wr) ∧ Hid ((L.take k).any (rbBad R) = false)) (fun iv _ => L.length - (intOf iv).toNat)
    case atStart => exact ⟨0, by omega, rfl, Lib.hid (Below.refl _ _), Lib.hid (by simp)⟩
    case round =>
      obtain ⟨k, hk, rfl, hbr, hpre⟩ := hrel
      by_cases hlt : k < L.length
      · obtain ⟨g, hA, hg⟩ := hcl.out k hlt
        subst hA
        have hc0 := hg wr hbr.out
        have hylt := hLlt.out L[k] (List.getElem_mem hlt)
        have hnx : Hid ((L.take (k + 1)).any (rbBad R) = rbBad R L[k]) := Lib.hid (by rw [List.take_succ_eq_append_getElem hlt, List.any_append, hpre.out]; simp)
        have hall : Hid (rbBad R L[k] = true → L.any (rbBad R) = true) := Lib.hid (fun hb => List.any_eq_true.2 ⟨_, List.getElem_mem hlt, hb⟩)
        obtain ⟨y, hy⟩ : ∃ y, L[k] = y := ⟨_, rfl⟩
        rw [hy] at hc0 hylt hnx hall
        have hbwr := Lib.hid (hb2H.out.trans (hbr.out.mono hb2H.out.size))
        obtain ⟨t, ht⟩ : ∃ t, nodeG R y = t := ⟨_, rfl⟩
        have hg3 := Lib.hid (hGt.out wr hbwr.out y hylt t ht)
        have hokt := hokG.out y
        rw [ht] at hokt
        have hbd : rbBad R y = (rbB R t.right != rbB R t.left || rbB R y != (if rbRed R y then rbB R t.left else rbB R t.left + 1) || rbRed R y && (rbRed R t.left || rbRed R t.right)) := by unfold rbBad rbBad1 rbBad2 rbBad3; rw [ht]
        have hBL := Lib.hid (fun W (hb : Below w.heap.size w W) => hBk.out W hb t.left hokt.left)
        have hBR := Lib.hid (fun W (hb : Below w.heap.size w W) => hBk.out W hb t.right hokt.right)
        have hBY := Lib.hid (fun W (hb : Below w.heap.size w W) => hBk.out W hb y hylt)
        have hRL := Lib.hid (fun W (hb : Below w.heap.size w W) => hRe.out W hb t.left hokt.left)
        have hRR := Lib.hid (fun W (hb : Below w.heap.size w W) => hRe.out W hb t.right hokt.right)
        have hRY := Lib.hid (fun W (hb : Below w.heap.size w W) => hRe.out W hb y hylt)
        have lL := hBl.out t.left
        have lR := hBl.out t.right
        have lY := hBl.out y
        generalize rbB R t.left = bl at *
        generalize rbB R t.right = br at *
        generalize rbB R y = bh at *
        generalize rbRed R t.left = rl at *
        generalize rbRed R t.right = rr at *
        generalize rbRed R y = ry at *
        have hbdH := Lib.hid hbd
        clear ht hy hbd hg hcl hokt
        go_wp2_with fail
        refine hg3.out.mono ?_
        rintro e w3 ⟨rfl, hb3⟩
        have hb3H := Lib.hid (hbwr.out.trans (hb3.mono hbwr.out.size))
        have hbr3 := Lib.hid (hbr.out.trans (hb3.mono hbr.out.size))
        have hz3 := hbr3.out.size
        have hz4 := hb3H.out.size
        clear hb3 hg3 hc0
        go_wp2_with fail
        obtain ⟨W3, hW⟩ : ∃ W, W = w3.alloc (Obj.cells #[.int .u64 (t.key : Nat), .int .u64 (t.val : Nat), .int .u64 (t.left : Nat), .int .u64 (t.right : Nat), .int .u64 (t.mark : Nat), .int .u64 (t.size : Nat)] 53) := ⟨_, rfl⟩
        obtain ⟨b3, hb⟩ : ∃ b, b = w3.heap.size := ⟨_, rfl⟩
        have hX3 : Hid (Box W3 b3 53 [.int .u64 (t.key : Nat), .int .u64 (t.val : Nat), .int .u64 (t.left : Nat), .int .u64 (t.right : Nat), .int .u64 (t.mark : Nat), .int .u64 (t.size : Nat)]) := Lib.hid (by rw [hW, hb]; exact Box.new w3 53 [.int .u64 (t.key : Nat), .int .u64 (t.val : Nat), .int .u64 (t.left : Nat), .int .u64 (t.right : Nat), .int .u64 (t.mark : Nat), .int .u64 (t.size : Nat)])
        have hB3 : Hid (Below w.heap.size w W3) := Lib.hid (by rw [hW]; exact hb3H.out.alloc hz4 _)
        have hR3 : Hid (Below w2.heap.size w2 W3) := Lib.hid (by rw [hW]; exact hbr3.out.alloc hz3 _)
        rw [← hW, ← hb]
        clear hW hb hz3 hz4 hb3H hbr3
        have c2 := hX3.out.at' (i := 2) rfl
        have c3 := hX3.out.at' (i := 3) rfl
        go_wp2_with fail
        refine (hBL.out _ hB3.out).mono ?_
        rintro e W4 ⟨rfl, hb⟩
        have hB4H := Lib.hid (hB3.out.trans (hb.mono hB3.out.size))
        have hR4H := Lib.hid (hR3.out.trans (hb.mono hR3.out.size))
        have hX4H := Lib.hid (hX3.out.below hb)
        clear hb hB3 hR3 hX3 c2 c3
        have c2 := hX4H.out.at' (i := 2) rfl
        have c3 := hX4H.out.at' (i := 3) rfl
        cases ry with
        | false =>
          go_wp2_with fail
          refine (hRY.out _ hB4H.out).mono ?_
          rintro e W5 ⟨rfl, hb⟩
          have hB5H := Lib.hid (hB4H.out.trans (hb.mono hB4H.out.size))
          have hR5H := Lib.hid (hR4H.out.trans (hb.mono hR4H.out.size))
          have hX5H := Lib.hid (hX4H.out.below hb)
          clear hb hB4H hR4H hX4H c2 c3
          have c2 := hX5H.out.at' (i := 2) rfl
          have c3 := hX5H.out.at' (i := 3) rfl
          go_wp2_with fail
          refine (hBR.out _ hB5H.out).mono ?_
          rintro e W6 ⟨rfl, hb⟩
          have hB6H := Lib.hid (hB5H.out.trans (hb.mono hB5H.out.size))
          have hR6H := Lib.hid (hR5H.out.trans (hb.mono hR5H.out.size))
          have hX6H := Lib.hid (hX5H.out.below hb)
          clear hb hB5H hR5H hX5H c2 c3
          have c2 := hX6H.out.at' (i := 2) rfl
          have c3 := hX6H.out.at' (i := 3) rfl
          by_cases q1 : br = bl
          · have d1 : ((br : Int) != (bl : Int)) = false := by simp; omega
            go_wp2_with fail
            refine (hBY.out _ hB6H.out).mono ?_
            rintro e W7 ⟨rfl, hb⟩
            have hB7H := Lib.hid (hB6H.out.trans (hb.mono hB6H.out.size))
            have hR7H := Lib.hid (hR6H.out.trans (hb.mono hR6H.out.size))
            have hX7H := Lib.hid (hX6H.out.below hb)
            clear hb hB6H hR6H hX6H c2 c3
            have c2 := hX7H.out.at' (i := 2) rfl
            have c3 := hX7H.out.at' (i := 3) rfl
            by_cases q2 : bh = bl + 1
            · have d2 : ((bh : Int) != ((bl : Int) + 1)) = false := by simp; omega
              go_wp2_with fail
              refine (hRY.out _ hB7H.out).mono ?_
              rintro e W8 ⟨rfl, hb⟩
              have hB8H := Lib.hid (hB7H.out.trans (hb.mono hB7H.out.size))
              have hR8H := Lib.hid (hR7H.out.trans (hb.mono hR7H.out.size))
              have hX8H := Lib.hid (hX7H.out.below hb)
              clear hb hB7H hR7H hX7H c2 c3
              have c2 := hX8H.out.at' (i := 2) rfl
              have c3 := hX8H.out.at' (i := 3) rfl
              have hfin := Lib.hid (hnx.out.trans (show rbBad R y = false by rw [hbdH.out]; simp [q1, q2]))
              have hRf := Lib.hid hR8H.out
              clear hall hnx c2 c3 hX8H hR8H
              go_wp2
              go_roundw
              case rel => exact ⟨k + 1, by omega, by go_num, hRf, hfin⟩
              case measure => simp [intOf]; omega
            · have d2 : ((bh : Int) != ((bl : Int) + 1)) = true := by simp; omega
              have hfin := Lib.hid (hall.out (by rw [hbdH.out]; simp [q2]))
              clear hall hnx c2 c3
              go_wp2
              go_ret
              rw [hvH.out, if_pos hfin.out]
              exact ⟨rfl, hB7H.out⟩
          · have d1 : ((br : Int) != (bl : Int)) = true := by simp; omega
            have hfin := Lib.hid (hall.out (by rw [hbdH.out]; simp [q1]))
            clear hall hnx c2 c3
            go_wp2
            go_ret
            rw [hvH.out, if_pos hfin.out]
            exact ⟨rfl, hB6H.out⟩
        | true =>
          go_wp2_with fail
          refine (hRY.out _ hB4H.out).mono ?_
          rintro e W5 ⟨rfl, hb⟩
          have hB5H := Lib.hid (hB4H.out.trans (hb.mono hB4H.out.size))
          have hR5H := Lib.hid (hR4H.out.trans (hb.mono hR4H.out.size))
          have hX5H := Lib.hid (hX4H.out.below hb)
          clear hb hB4H hR4H hX4H c2 c3
          have c2 := hX5H.out.at' (i := 2) rfl
          have c3 := hX5H.out.at' (i := 3) rfl
          go_wp2_with fail
          refine (hBR.out _ hB5H.out).mono ?_
          rintro e W6 ⟨rfl, hb⟩
          have hB6H := Lib.hid (hB5H.out.trans (hb.mono hB5H.out.size))
          have hR6H := Lib.hid (hR5H.out.trans (hb.mono hR5H.out.size))
          have hX6H := Lib.hid (hX5H.out.below hb)
          clear hb hB5H hR5H hX5H c2 c3
          have c2 := hX6H.out.at' (i := 2) rfl
          have c3 := hX6H.out.at' (i := 3) rfl
          by_cases q1 : br = bl
          · have d1 : ((br : Int) != (bl : Int)) = false := by simp; omega
            go_wp2_with fail
            refine (hBY.out _ hB6H.out).mono ?_
            rintro e W7 ⟨rfl, hb⟩
            have hB7H := Lib.hid (hB6H.out.trans (hb.mono hB6H.out.size))
            have hR7H := Lib.hid (hR6H.out.trans (hb.mono hR6H.out.size))
            have hX7H := Lib.hid (hX6H.out.below hb)
            clear hb hB6H hR6H hX6H c2 c3
            have c2 := hX7H.out.at' (i := 2) rfl
            have c3 := hX7H.out.at' (i := 3) rfl
            by_cases q2 : bh = bl
            · have d2 : ((bh : Int) != (bl : Int)) = false := by simp; omega
              go_wp2_with fail
              refine (hRY.out _ hB7H.out).mono ?_
              rintro e W8 ⟨rfl, hb⟩
              have hB8H := Lib.hid (hB7H.out.trans (hb.mono hB7H.out.size))
              have hR8H := Lib.hid (hR7H.out.trans (hb.mono hR7H.out.size))
              have hX8H := Lib.hid (hX7H.out.below hb)
              clear hb hB7H hR7H hX7H c2 c3
              have c2 := hX8H.out.at' (i := 2) rfl
              have c3 := hX8H.out.at' (i := 3) rfl
              cases rl with
              | true =>
                go_wp2_with fail
                refine (hRL.out _ hB8H.out).mono ?_
                rintro e W9 ⟨rfl, hb⟩
                have hB9H := Lib.hid (hB8H.out.trans (hb.mono hB8H.out.size))
                have hR9H := Lib.hid (hR8H.out.trans (hb.mono hR8H.out.size))
                have hX9H := Lib.hid (hX8H.out.below hb)
                clear hb hB8H hR8H hX8H c2 c3
                have c2 := hX9H.out.at' (i := 2) rfl
                have c3 := hX9H.out.at' (i := 3) rfl
                have hfin := Lib.hid (hall.out (by rw [hbdH.out]; simp))
                clear hall hnx c2 c3
                go_wp2
                go_ret
                rw [hvH.out, if_pos hfin.out]
                exact ⟨rfl, hB9H.out⟩
              | false =>
                go_wp2_with fail
                refine (hRL.out _ hB8H.out).mono ?_
                rintro e W9 ⟨rfl, hb⟩
                have hB9H := Lib.hid (hB8H.out.trans (hb.mono hB8H.out.size))
                have hR9H := Lib.hid (hR8H.out.trans (hb.mono hR8H.out.size))
                have hX9H := Lib.hid (hX8H.out.below hb)
                clear hb hB8H hR8H hX8H c2 c3
                have c2 := hX9H.out.at' (i := 2) rfl
                have c3 := hX9H.out.at' (i := 3) rfl
                cases rr with
                | true =>
                  go_wp2_with fail
                  refine (hRR.out _ hB9H.out).mono ?_
                  rintro e W10 ⟨rfl, hb⟩
                  have hB10H := Lib.hid (hB9H.out.trans (hb.mono hB9H.out.size))
                  have hR10H := Lib.hid (hR9H.out.trans (hb.mono hR9H.out.size))
                  have hX10H := Lib.hid (hX9H.out.below hb)
                  clear hb hB9H hR9H hX9H c2 c3
                  have c2 := hX10H.out.at' (i := 2) rfl
                  have c3 := hX10H.out.at' (i := 3) rfl
                  have hfin := Lib.hid (hall.out (by rw [hbdH.out]; simp))
                  clear hall hnx c2 c3
                  go_wp2
                  go_ret
                  rw [hvH.out, if_pos hfin.out]
                  exact ⟨rfl, hB10H.out⟩
                | false =>
                  go_wp2_with fail
                  refine (hRR.out _ hB9H.out).mono ?_
                  rintro e W10 ⟨rfl, hb⟩
                  have hB10H := Lib.hid (hB9H.out.trans (hb.mono hB9H.out.size))
                  have hR10H := Lib.hid (hR9H.out.trans (hb.mono hR9H.out.size))
                  have hX10H := Lib.hid (hX9H.out.below hb)
                  clear hb hB9H hR9H hX9H c2 c3
                  have c2 := hX10H.out.at' (i := 2) rfl
                  have c3 := hX10H.out.at' (i := 3) rfl
                  have hfin := Lib.hid (hnx.out.trans (show rbBad R y = false by rw [hbdH.out]; simp [q1, q2]))
                  have hRf := Lib.hid hR10H.out
                  clear hall hnx c2 c3 hX10H hR10H
                  go_wp2
                  go_roundw
                  case rel => exact ⟨k + 1, by omega, by go_num, hRf, hfin⟩
                  case measure => simp [intOf]; omega
            · have d2 : ((bh : Int) != (bl : Int)) = true := by simp; omega
              have hfin := Lib.hid (hall.out (by rw [hbdH.out]; simp [q2]))
              clear hall hnx c2 c3
              go_wp2
              go_ret
              rw [hvH.out, if_pos hfin.out]
              exact ⟨rfl, hB7H.out⟩
          · have d1 : ((br : Int) != (bl : Int)) = true := by simp; omega
            have hfin := Lib.hid (hall.out (by rw [hbdH.out]; simp [q1]))
            clear hall hnx c2 c3
            go_wp2
            go_ret
            rw [hvH.out, if_pos hfin.out]
            exact ⟨rfl, hB6H.out⟩
      · obtain rfl : k = L.length := by omega
        have hfin : Hid (L.any (rbBad R) = false) := Lib.hid (by have := hpre.out; rw [List.take_length] at this; exact this)
        go_wp2
        go_ret
        rw [hvH.out, if_neg (by rw [hfin.out]; simp)]
        exact ⟨rfl, hb2H.out.trans (hbr.out.mono hb2H.out.size)⟩
  · have hc8 : c = 8 := by omega
    have dc : ((c : Int) != 0) = true := by rw [hc8]; rfl
    rw [if_pos hc0] at hv
    have hvH := Lib.hid hv
    clear hv hc0 hc9 hc8 h hsh
    go_enter Tryz.func21, Tryz.ntmps21
    go_wp2_with fail
    refine hCkH.out.mono ?_
    rintro e w1 ⟨rfl, hb1⟩
    have hb1H := Lib.hid hb1
    clear hb1 hCkH
    go_wp2
    go_ret
    rw [hvH.out]
    exact ⟨rfl, hb1H.out⟩
end
end Go.Proofs.YtjpmlneihbckpaaGreatDoor
/- redblack.Join of trees, Check, Black, as contracts. -/
set_option linter.unusedVariables false
set_option linter.unusedSimpArgs false
namespace Go.Proofs.YtjpmlneihbckpaaGreatDoor
open Go.RowKit Go.Shelf
section
variable {w w' : World} {s : Nat} {F : Nat → Prop} {R : Nat → Option (List Nat)} {H : List Nat} {P q most last G : Nat}
theorem rbJoined_at (h : StoreIs w s F R H P q most last G) {l r : BT} {x kx vx m : Nat} {k v : ByteArray} {a b : BT} (h0 : R 0 = none) (hl : l.At R) (hr : r.At R) (al : l.RB) (ar : r.RB) (hm : (BT.node x kx vx m k v a b).At R)
    (hn : (BT.node x kx vx 0 k v l r).hs.Nodup) (sz : l.size + r.size ≤ 100) :
    Calls Tryz.prog 24 #[.pointer (some ⟨s, 0, none⟩), .int .u64 (l.root : Nat), .int .u64 (x : Nat), .int .u64 (r.root : Nat)] w fun e w' => ∃ (t : BT) (R' : Nat → Option (List Nat)), e = .returned (.tuple #[.int .u64 (t.root : Nat), .int .i64 0]) ∧
      t.At R' ∧ BT.Sim (.node x kx vx 0 k v l r) t ∧ t.RB ∧ (∀ z, z ∉ (BT.node x kx vx 0 k v l r).nodes → R' z = R z) ∧ KeepsN R R' ∧ ((max l.bh r.bh ≤ t.bh ∧ t.bh ≤ max l.bh r.bh + 1) ∧ (l.bh = r.bh → t = .node x kx vx (if !l.red && !r.red then 2 * l.bh + 1 else 2 * l.bh + 2) k v l r)) ∧ StoreIs w' s F R' H P q most last G ∧ Turn w F w' F := by
  obtain ⟨n, hrd, _⟩ := h.rd
  have hj := rbTop_at h l.root x r.root (BT.root_lt hl hrd) (hrd.u64 hm.2.1).1 (BT.root_lt hr hrd)
  have hk := rbJ_keeps R l.root x r.root
  obtain ⟨t, o, t3, t4, t5, t6⟩ := rbJ_bt h0 hl hr al ar hm hn (by omega)
  generalize rbJ R l.root x r.root = p at *
  obtain ⟨R', y, er⟩ := p
  simp only at hj hk o t3
  refine hj.mono fun e w' ⟨he, hS, hT⟩ => ⟨t, R', ?_, o.at', o.sim, o.rb, o.frame, hk, ⟨⟨t4, t5⟩, t6⟩, hS, hT⟩
  rw [he, o.root, t3]
  rfl
/-- a right red-black tree is told right -/
theorem rbGood {R : Nat → Option (List Nat)} (h0 : R 0 = none) : ∀ (t : BT), t.At R → t.RB → ∀ x ∈ t.nodes, rbBad R x = false
  | .nil, _, _, x, hx => by simp [BT.nodes] at hx
  | .node y kx vx m k v l r, ht, ha, x, hx => by
    have hl := ht.2.2.2.2.2.2.1
    have hr := ht.2.2.2.2.2.2.2
    obtain ⟨a1, a2, al, ar⟩ := ha
    simp only [BT.nodes, List.mem_append, List.mem_cons] at hx
    rcases hx with hx | hx | hx
    · exact rbGood h0 l hl al x hx
    · subst hx
      have g := (nodeR_at ht.2.1).2
      obtain ⟨l1, l2⟩ := BT.rbB_at hl h0
      obtain ⟨r1, r2⟩ := BT.rbB_at hr h0
      have m1 : rbB R x = m / 2 := by unfold rbB; rw [g]
      have m2 : rbRed R x = (m % 2 == 1) := by unfold rbRed; rw [g]
      have b1 : rbBad1 R x = false := by unfold rbBad1; rw [g, l1, r1, a2]; exact bne_self_eq_false _
      have b2 : rbBad2 R x = false := by
        unfold rbBad2
        rw [g, l1, m1, m2]
        rcases a1 with e | ⟨e, _, _⟩
        · rw [e, show (2 * l.bh + 2) / 2 = l.bh + 1 by omega, show (2 * l.bh + 2) % 2 = 0 by omega]
          exact bne_self_eq_false _
        · rw [e, show (2 * l.bh + 1) / 2 = l.bh by omega, show (2 * l.bh + 1) % 2 = 1 by omega]
          exact bne_self_eq_false _
      have b3 : rbBad3 R x = false := by
        unfold rbBad3
        rw [g, l2, r2, m2]
        rcases a1 with e | ⟨e, e1, e2⟩
        · rw [e, show (2 * l.bh + 2) % 2 = 0 by omega]
          rfl
        · rw [e1, e2]
          simp
      unfold rbBad
      rw [b1, b2, b3]
      rfl
    · exact rbGood h0 r hr ar x hx
theorem trbCheck_at {N n : Nat} {t : BT} {l : List Pr} (h : TreeR N w s R n t l) (ha : t.RB) : Calls Tryz.prog 21 #[.pointer (some ⟨s, 0, none⟩), .int .u64 (t.root : Nat)] w fun e w' => e = .returned (.int .i64 0) ∧ Below w.heap.size w w' := by
  have h1 := h.rd.le
  have h2 := h.sz
  have hf := rbCheck_at h.rd h.sh t.root h.root_lt
  have hz : rcheckR R n t.root = 0 := by
    unfold rcheckR
    rw [BT.check_at h.at' (by rw [h.prs]; exact h.ris) h.nod (n := n) (by omega) (by omega), BT.inR_at h.at' (n := n) (by omega)]
    rw [if_neg (by simp), if_neg]
    rw [List.any_eq_true]
    rintro ⟨x, hx, hb⟩
    rw [rbGood h.z t h.at' ha x hx] at hb
    cases hb
  rw [hz] at hf
  exact hf
theorem trbBlack_at {N n : Nat} {t : BT} (h : Rd N w s R n) (h0 : R 0 = none) (ht : t.At R) : Calls Tryz.prog 20 #[.pointer (some ⟨s, 0, none⟩), .int .u64 (t.root : Nat)] w fun e w' => e = .returned (.tuple #[.int .i64 (t.bh : Nat), .bool (!t.red)]) ∧ Below w.heap.size w w' := by
  have hf := tblack_at h t.root (BT.root_lt ht h)
  rw [(BT.rbB_at ht h0).1, (BT.rbB_at ht h0).2] at hf
  exact hf
end
end Go.Proofs.YtjpmlneihbckpaaGreatDoor
/- The walks of package parts: of, asked. -/
set_option linter.unusedVariables false
set_option linter.unusedSimpArgs false
namespace Go.Proofs.YtjpmlneihbckpaaGreatDoor
open Go.RowKit Go.Shelf
/-- the functions of a kind's join and check -/
def jnF (rd : Bool) : FuncId := if rd then 24 else 124
def ckF (rd : Bool) : FuncId := if rd then 21 else 125
def fnV (f : FuncId) : Value := .func (.func f) #[] #[]
def kindZ (rd : Bool) : Int := if rd then 2 else 1
set_option maxRecDepth 100000 in
theorem paOf_at (rd : Bool) (w : World) : Calls Tryz.prog 99 #[.int .i64 (kindZ rd)] w fun e w' => e = .returned (.tuple #[.agg #[.func (.func (jnF rd)) #[] #[], .func (.func (ckF rd)) #[] #[]], .bool true]) ∧ Below w.heap.size w w' := by
  cases rd with
  | false =>
    unfold jnF ckF kindZ
    go_enter Tryz.func99, Tryz.ntmps99
    go_wp2
    exact bodyPost_ret (v := .tuple #[.agg #[.func (.func (jnF false)) #[] #[], .func (.func (ckF false)) #[] #[]], .bool true]) (by simp [results, Tryz.f99, go_sem, jnF, ckF]) rfl ⟨rfl, (Below.refl _ _).alloc (Nat.le_refl _) _⟩
  | true =>
    unfold jnF ckF kindZ
    go_enter Tryz.func99, Tryz.ntmps99
    go_wp2
    exact bodyPost_ret (v := .tuple #[.agg #[.func (.func (jnF true)) #[] #[], .func (.func (ckF true)) #[] #[]], .bool true]) (by simp [results, Tryz.f99, go_sem, jnF, ckF]) rfl ⟨rfl, (Below.refl _ _).alloc (Nat.le_refl _) _⟩
set_option maxRecDepth 100000 in
theorem paOf_no (k : Int) (hk : k ≠ 1 ∧ k ≠ 2) (w : World) : Calls Tryz.prog 99 #[.int .i64 k] w fun e w' => e = .returned (.tuple #[.agg #[.nilFunc, .nilFunc], .bool false]) ∧ Below w.heap.size w w' := by
  have d1 : (k == 1) = false := by simp; omega
  have d2 : (k == 2) = false := by simp; omega
  go_enter Tryz.func99, Tryz.ntmps99
  go_wp2
  exact bodyPost_ret (v := .tuple #[.agg #[.nilFunc, .nilFunc], .bool false]) (by simp [results, Tryz.f99, go_sem]) rfl ⟨rfl, (Below.refl _ _).alloc (Nat.le_refl _) _⟩
end Go.Proofs.YtjpmlneihbckpaaGreatDoor
/- The walks of package parts: asked. -/
set_option linter.unusedVariables false
set_option linter.unusedSimpArgs false
namespace Go.Proofs.YtjpmlneihbckpaaGreatDoor
open Go.RowKit Go.Shelf
/-- a cutter -/
def cutV (s : Nat) (rd : Bool) : Value := .agg #[.pointer (some ⟨s, 0, none⟩), .func (.func (jnF rd)) #[] #[], .func (.func (ckF rd)) #[] #[]]
/-- no cutter -/
def cut0 : Value := .agg #[.pointer none, .nilFunc, .nilFunc]
/-- a slice's handles, where they lie -/
def HsAt (w : World) (A : Option Addr) (hs : List Nat) : Prop := ∀ i (hi : i < hs.length), ∃ g, A = some ⟨g, 0, none⟩ ∧ w.cell? ⟨g, i, none⟩ = some (.int .u64 (hs[i] : Nat))
theorem HsAt.below {w w' : World} {A : Option Addr} {hs : List Nat} (h : HsAt w A hs) (hb : Below w.heap.size w w') : HsAt w' A hs := fun i hi => by
  obtain ⟨g, h1, h2⟩ := h i hi
  exact ⟨g, h1, (hb.cell (p := ⟨g, i, none⟩) (cell_lt h2)).trans h2⟩
theorem HsAt.nil {w : World} (A : Option Addr) : HsAt w A [] := fun i hi => by cases hi
set_option maxRecDepth 100000 in
theorem paAsk_nil (k : Int) (key : ByteArray) (A : Option Addr) (m c : Nat) (w : World) : Calls Tryz.prog 70 #[.pointer none, .int .i64 k, .string key, .slice A m c] w fun e w' => e = .returned (.tuple #[cut0, .int .i64 1]) ∧ Below w.heap.size w w' := by
  unfold cut0
  go_enter Tryz.func70, Tryz.ntmps70
  go_wp2_with (go_at_call 51; refine (slen_nil _ _).mono ?_; rintro e w' ⟨rfl, rfl⟩)
  exact bodyPost_ret (v := .tuple #[.agg #[.pointer none, .nilFunc, .nilFunc], .int .i64 1]) (by simp [results, Tryz.f70, go_sem]) rfl ⟨rfl, (Below.refl _ _).alloc (Nat.le_refl _) _⟩
section
variable {w w' : World} {s N : Nat} {R : Nat → Option (List Nat)} {n : Nat}
set_option maxHeartbeats 4000000 in
set_option maxRecDepth 100000 in
theorem paAsk_kind (h : Rd N w s R n) (k : Int) (hk : k ≠ 1 ∧ k ≠ 2) (key : ByteArray) (A : Option Addr) (m c : Nat) :
    Calls Tryz.prog 70 #[.pointer (some ⟨s, 0, none⟩), .int .i64 k, .string key, .slice A m c] w fun e w' => e = .returned (.tuple #[cut0, .int .i64 2]) ∧ Below w.heap.size w w' := by
  obtain ⟨W0, hW0⟩ : ∃ W, W = w.alloc (Obj.cells #[.pointer none, .nilFunc, .nilFunc] 124) := ⟨_, rfl⟩
  have hX0 : Box W0 w.heap.size 124 [.pointer none, .nilFunc, .nilFunc] := by rw [hW0]; exact Box.new w 124 [.pointer none, .nilFunc, .nilFunc]
  have hb0 : Below w.heap.size w W0 := by rw [hW0]; exact (Below.refl _ w).alloc (Nat.le_refl _) _
  have hL := rlen_at (h.below hb0) 0 (by omega)
  obtain ⟨lv, hlv, hle⟩ : ∃ (a b : Nat), lenR R 0 = .tuple #[.int .i64 (a : Nat), .int .i64 (b : Nat)] ∧ b ≠ 1 := by
    unfold lenR
    cases R 0 with
    | none => exact ⟨0, 7, rfl, by decide⟩
    | some ws => exact ⟨ws.length, 0, rfl, by decide⟩
  rw [hle.1] at hL
  have hl1 := hle.2
  have dl : ((hlv : Int) == 1) = false := by simp; omega
  have hLH := Lib.hid hL
  have hX0H := Lib.hid hX0
  have hb0H := Lib.hid hb0
  have hW0H := Lib.hid hW0
  clear hL hle hX0 hb0 hW0 h
  go_enter Tryz.func70, Tryz.ntmps70
  go_wp2_with fail
  rw [← hW0H.out]
  refine hLH.out.mono ?_
  rintro e w1 ⟨rfl, rfl⟩
  clear hLH
  go_wp2_with fail
  refine (paOf_no k hk _).mono ?_
  rintro e w2 ⟨rfl, hb2⟩
  have hb2H := Lib.hid (hb0H.out.trans (hb2.mono hb0H.out.size))
  have hz2 := hb2H.out.size
  have hX2H := Lib.hid (hX0H.out.below hb2)
  clear hb2
  have hz3 := hX2H.out.lt
  have c0 := hX2H.out.at' (i := 0) rfl
  have c1 := hX2H.out.at' (i := 1) rfl
  have c2 := hX2H.out.at' (i := 2) rfl
  have f0 := hX2H.out.free 0
  have f1 := hX2H.out.free 1
  have f2 := hX2H.out.free 2
  go_wp2
  have hB := Box.alloc (((hX2H.out.set 0 (.pointer none)).set 1 (.nilFunc)).set 2 (.nilFunc)) (Obj.cells #[.nilFunc, .nilFunc] 122)
  have k0 := hB.at' (i := 0) rfl
  have k1 := hB.at' (i := 1) rfl
  have k2 := hB.at' (i := 2) rfl
  refine bodyPost_ret (v := .tuple #[cut0, .int .i64 2]) ?_ rfl ⟨rfl, (((hb2H.out.setCell (p := ⟨w.heap.size, 0, none⟩) (Nat.le_refl _) _).setCell (p := ⟨w.heap.size, 1, none⟩) (Nat.le_refl _) _).setCell (p := ⟨w.heap.size, 2, none⟩) (Nat.le_refl _) _).alloc (by simp; exact hz2) _⟩
  clear c0 c1 c2 f0 f1 f2 hB
  simp [results, Tryz.f70, go_sem, cut0, cutV, k0, k1, k2]
set_option maxHeartbeats 4000000 in
set_option maxRecDepth 100000 in
theorem paAsk_long (h : Rd N w s R n) (rd : Bool) (key : ByteArray) (hk : 1000 < key.size) (hk2 : key.size ≤ 9223372036854775807) (A : Option Addr) (m c : Nat) :
    Calls Tryz.prog 70 #[.pointer (some ⟨s, 0, none⟩), .int .i64 (kindZ rd), .string key, .slice A m c] w fun e w' => e = .returned (.tuple #[cut0, .int .i64 4]) ∧ Below w.heap.size w w' := by
  obtain ⟨W0, hW0⟩ : ∃ W, W = w.alloc (Obj.cells #[.pointer none, .nilFunc, .nilFunc] 124) := ⟨_, rfl⟩
  have hX0 : Box W0 w.heap.size 124 [.pointer none, .nilFunc, .nilFunc] := by rw [hW0]; exact Box.new w 124 [.pointer none, .nilFunc, .nilFunc]
  have hb0 : Below w.heap.size w W0 := by rw [hW0]; exact (Below.refl _ w).alloc (Nat.le_refl _) _
  have hL := rlen_at (h.below hb0) 0 (by omega)
  obtain ⟨lv, hlv, hle⟩ : ∃ (a b : Nat), lenR R 0 = .tuple #[.int .i64 (a : Nat), .int .i64 (b : Nat)] ∧ b ≠ 1 := by
    unfold lenR
    cases R 0 with
    | none => exact ⟨0, 7, rfl, by decide⟩
    | some ws => exact ⟨ws.length, 0, rfl, by decide⟩
  rw [hle.1] at hL
  have hl1 := hle.2
  have dl : ((hlv : Int) == 1) = false := by simp; omega
  have hLH := Lib.hid hL
  have hX0H := Lib.hid hX0
  have hb0H := Lib.hid hb0
  have hW0H := Lib.hid hW0
  clear hL hle hX0 hb0 hW0 h
  go_enter Tryz.func70, Tryz.ntmps70
  go_wp2_with fail
  rw [← hW0H.out]
  refine hLH.out.mono ?_
  rintro e w1 ⟨rfl, rfl⟩
  clear hLH
  go_wp2_with fail
  refine (paOf_at rd _).mono ?_
  rintro e w2 ⟨rfl, hb2⟩
  have hb2H := Lib.hid (hb0H.out.trans (hb2.mono hb0H.out.size))
  have hz2 := hb2H.out.size
  have hX2H := Lib.hid (hX0H.out.below hb2)
  clear hb2
  have hz3 := hX2H.out.lt
  generalize jnF rd = jn at *
  generalize ckF rd = ck at *
  have c0 := hX2H.out.at' (i := 0) rfl
  have c1 := hX2H.out.at' (i := 1) rfl
  have c2 := hX2H.out.at' (i := 2) rfl
  have f0 := hX2H.out.free 0
  have f1 := hX2H.out.free 1
  have f2 := hX2H.out.free 2
  go_wp2
  have hB := Box.alloc (((hX2H.out.set 0 (.pointer none)).set 1 (.nilFunc)).set 2 (.nilFunc)) (Obj.cells #[.func (.func jn) #[] #[], .func (.func ck) #[] #[]] 122)
  have k0 := hB.at' (i := 0) rfl
  have k1 := hB.at' (i := 1) rfl
  have k2 := hB.at' (i := 2) rfl
  refine bodyPost_ret (v := .tuple #[cut0, .int .i64 4]) ?_ rfl ⟨rfl, (((hb2H.out.setCell (p := ⟨w.heap.size, 0, none⟩) (Nat.le_refl _) _).setCell (p := ⟨w.heap.size, 1, none⟩) (Nat.le_refl _) _).setCell (p := ⟨w.heap.size, 2, none⟩) (Nat.le_refl _) _).alloc (by simp; exact hz2) _⟩
  clear c0 c1 c2 f0 f1 f2 hB
  simp [results, Tryz.f70, go_sem, cut0, cutV, k0, k1, k2]
set_option maxHeartbeats 4000000 in
set_option maxRecDepth 100000 in
theorem paAsk_ok (h : Rd N w s R n) (rd : Bool) (key : ByteArray) (hk : key.size ≤ 1000) (A : Option Addr) (c : Nat) (hs : List Nat) (hlen : hs.length ≤ 1000) (hcs : HsAt w A hs) (hlt : ∀ x ∈ hs, x < 18446744073709551616) (hok : ∀ x ∈ hs, isR R x = true) :
    Calls Tryz.prog 70 #[.pointer (some ⟨s, 0, none⟩), .int .i64 (kindZ rd), .string key, .slice A hs.length c] w fun e w' => e = .returned (.tuple #[cutV s rd, .int .i64 0]) ∧ Below w.heap.size w w' := by
  have hlts := Lib.hid hlt
  have hoks := Lib.hid hok
  clear hlt hok
  obtain ⟨W0, hW0⟩ : ∃ W, W = w.alloc (Obj.cells #[.pointer none, .nilFunc, .nilFunc] 124) := ⟨_, rfl⟩
  have hX0 : Box W0 w.heap.size 124 [.pointer none, .nilFunc, .nilFunc] := by rw [hW0]; exact Box.new w 124 [.pointer none, .nilFunc, .nilFunc]
  have hb0 : Below w.heap.size w W0 := by rw [hW0]; exact (Below.refl _ w).alloc (Nat.le_refl _) _
  have hL := rlen_at (h.below hb0) 0 (by omega)
  obtain ⟨lv, hlv, hle⟩ : ∃ (a b : Nat), lenR R 0 = .tuple #[.int .i64 (a : Nat), .int .i64 (b : Nat)] ∧ b ≠ 1 := by
    unfold lenR
    cases R 0 with
    | none => exact ⟨0, 7, rfl, by decide⟩
    | some ws => exact ⟨ws.length, 0, rfl, by decide⟩
  rw [hle.1] at hL
  have hl1 := hle.2
  have dl : ((hlv : Int) == 1) = false := by simp; omega
  have hLH := Lib.hid hL
  have hX0H := Lib.hid hX0
  have hb0H := Lib.hid hb0
  have hW0H := Lib.hid hW0
  clear hL hle hX0 hb0 hW0
  go_enter Tryz.func70, Tryz.ntmps70
  go_wp2_with fail
  rw [← hW0H.out]
  refine hLH.out.mono ?_
  rintro e w1 ⟨rfl, rfl⟩
  clear hLH
  go_wp2_with fail
  refine (paOf_at rd _).mono ?_
  rintro e w2 ⟨rfl, hb2⟩
  have hb2H := Lib.hid (hb0H.out.trans (hb2.mono hb0H.out.size))
  have hz2 := hb2H.out.size
  have hX2H := Lib.hid (hX0H.out.below hb2)
  have hz3 := hX2H.out.lt
  have hrd2H := Lib.hid (h.below hb2H.out)
  have hcs2 := Lib.hid (hcs.below hb2H.out)
  clear hb2 h hcs
  have hX3 := hX2H.out.alloc (Obj.cells #[.func (.func (jnF rd)) #[] #[], .func (.func (ckF rd)) #[] #[]] 122)
  have hY3 := Box.new w2 122 [.func (.func (jnF rd)) #[] #[], .func (.func (ckF rd)) #[] #[]]
  have hb3 := hb2H.out.alloc hz2 (Obj.cells #[.func (.func (jnF rd)) #[] #[], .func (.func (ckF rd)) #[] #[]] 122)
  have hzz : (w2.alloc (Obj.cells #[.func (.func (jnF rd)) #[] #[], .func (.func (ckF rd)) #[] #[]] 122)).heap.size = w2.heap.size + 1 := by simp
  go_wp2_with fail
  obtain ⟨W3, hW3⟩ : ∃ W, W = w2.alloc (Obj.cells #[.func (.func (jnF rd)) #[] #[], .func (.func (ckF rd)) #[] #[]] 122) := ⟨_, rfl⟩
  obtain ⟨b3, hb3e⟩ : ∃ b, b = w2.heap.size := ⟨_, rfl⟩
  rw [← hW3] at hX3 hY3 hb3 hzz
  rw [← hb3e] at hY3 hzz
  have hrd3H : Hid (Rd N W3 s R n) := Lib.hid (by rw [hW3]; exact hrd2H.out.below ((Below.refl _ _).alloc (Nat.le_refl _) _))
  have hcs3 : Hid (HsAt W3 A hs) := Lib.hid (by rw [hW3]; exact hcs2.out.below ((Below.refl _ _).alloc (Nat.le_refl _) _))
  have hX3H := Lib.hid hX3
  have hY3H := Lib.hid hY3
  have hb3H := Lib.hid hb3
  rw [← hW3, ← hb3e]
  have hl0 : w.heap.size < W3.heap.size := by omega
  have hl3 : b3 < W3.heap.size := by omega
  have hne : w.heap.size < b3 := by omega
  clear hX3 hY3 hb3 hzz hW3 hb3e hrd2H hcs2 hX2H hb2H hz2 hz3 hX0H hb0H hW0H
  go_loopw [40] (fun iv wr => ∃ k : Nat, k ≤ hs.length ∧ iv = .int .i64 k ∧ Hid (Below W3.heap.size W3 wr)) (fun iv _ => hs.length - (intOf iv).toNat)
  case atStart => exact ⟨0, by omega, rfl, Lib.hid (Below.refl _ _)⟩
  case round =>
    obtain ⟨k, hk9, rfl, hbr⟩ := hrel
    by_cases hlt : k < hs.length
    · skip
      obtain ⟨g, hA, hcx⟩ := hcs3.out k hlt
      have c9 : wr.cell? ⟨g, k, none⟩ = some (.int .u64 (hs[k] : Nat)) := (hbr.out.cell (p := ⟨g, k, none⟩) (cell_lt hcx)).trans hcx
      have hxl := hlts.out hs[k] (List.getElem_mem hlt)
      have hrdr := hrd3H.out.below hbr.out
      have hisx := hoks.out hs[k] (List.getElem_mem hlt)
      obtain ⟨y, hy⟩ : ∃ y, hs[k] = y := ⟨_, rfl⟩
      rw [hy] at c9 hxl hisx
      obtain ⟨nd, hnd⟩ : ∃ nd, nodeG R y = nd := ⟨_, rfl⟩
      obtain ⟨z, hz⟩ : ∃ z, nodeE R y = z := ⟨_, rfl⟩
      have hG := Lib.hid (nget_lit hrdr y hxl nd hnd z hz)
      have hz9 := hz ▸ nodeE_lt R y
      unfold isR at hisx
      rw [hz] at hisx
      subst hA
      clear hrdr hcx hnd hz hy
      by_cases hy0 : y = 0
      · have d : ((y : Int) != 0) = false := by simp; omega
        clear hisx hy0
        go_wp2_with fail
        refine hG.out.mono ?_
        rintro e w5 ⟨rfl, hb5⟩
        have hb5H := Lib.hid (hbr.out.trans (hb5.mono hbr.out.size))
        have hz5 := hb5H.out.size
        clear hb5 hG c9
        go_wp2
        go_roundw
        case rel => exact ⟨k + 1, by omega, by go_num, Lib.hid (hb5H.out.alloc hz5 _)⟩
        case measure => simp [intOf]; omega
      · have d : ((y : Int) != 0) = true := by simp; omega
        have hz0 : z = 0 := by simpa [hy0] using hisx
        have d2 : ((z : Int) != 0) = false := by simp; omega
        clear hisx hy0 hz0
        go_wp2_with fail
        refine hG.out.mono ?_
        rintro e w5 ⟨rfl, hb5⟩
        have hb5H := Lib.hid (hbr.out.trans (hb5.mono hbr.out.size))
        have hz5 := hb5H.out.size
        clear hb5 hG c9
        go_wp2
        go_roundw
        case rel => exact ⟨k + 1, by omega, by go_num, Lib.hid (hb5H.out.alloc hz5 _)⟩
        case measure => simp [intOf]; omega
    · obtain rfl : k = hs.length := by omega
      have hXr := Lib.hid (hX3H.out.below hbr.out)
      have hYr := hY3H.out.below hbr.out
      have hBr := Lib.hid (hb3H.out.trans (hbr.out.mono hb3H.out.size))
      have y0 := hYr.at' (i := 0) rfl
      have y1 := hYr.at' (i := 1) rfl
      clear hYr hX3H hY3H hb3H hrd3H hcs3
      have c0 := hXr.out.at' (i := 0) rfl
      have c1 := hXr.out.at' (i := 1) rfl
      have c2 := hXr.out.at' (i := 2) rfl
      have f0 := hXr.out.free 0
      have f1 := hXr.out.free 1
      have f2 := hXr.out.free 2
      go_wp2
      have hB := ((hXr.out.set 0 (.pointer (some ⟨s, 0, none⟩))).set 1 (.func (.func (jnF rd)) #[] #[])).set 2 (.func (.func (ckF rd)) #[] #[])
      have k0 := hB.at' (i := 0) rfl
      have k1 := hB.at' (i := 1) rfl
      have k2 := hB.at' (i := 2) rfl
      refine bodyPost_ret (v := .tuple #[cutV s rd, .int .i64 0]) ?_ rfl ⟨rfl, ((hBr.out.setCell (p := ⟨w.heap.size, 0, none⟩) (Nat.le_refl _) _).setCell (p := ⟨w.heap.size, 1, none⟩) (Nat.le_refl _) _).setCell (p := ⟨w.heap.size, 2, none⟩) (Nat.le_refl _) _⟩
      clear c0 c1 c2 f0 f1 f2 hB
      simp [results, Tryz.f70, go_sem, cut0, cutV, k0, k1, k2]
set_option maxHeartbeats 4000000 in
set_option maxRecDepth 100000 in
theorem paAsk_form (h : Rd N w s R n) (rd : Bool) (key : ByteArray) (hk : key.size ≤ 1000) (A : Option Addr) (c : Nat) (hs : List Nat) (hlen : hs.length ≤ 1000) (hcs : HsAt w A hs) (hlt : ∀ x ∈ hs, x < 18446744073709551616) (hno : ∃ x ∈ hs, isR R x = false) :
    Calls Tryz.prog 70 #[.pointer (some ⟨s, 0, none⟩), .int .i64 (kindZ rd), .string key, .slice A hs.length c] w fun e w' => e = .returned (.tuple #[cut0, .int .i64 8]) ∧ Below w.heap.size w w' := by
  have hlts := Lib.hid hlt
  have hnos := Lib.hid hno
  clear hlt hno
  obtain ⟨W0, hW0⟩ : ∃ W, W = w.alloc (Obj.cells #[.pointer none, .nilFunc, .nilFunc] 124) := ⟨_, rfl⟩
  have hX0 : Box W0 w.heap.size 124 [.pointer none, .nilFunc, .nilFunc] := by rw [hW0]; exact Box.new w 124 [.pointer none, .nilFunc, .nilFunc]
  have hb0 : Below w.heap.size w W0 := by rw [hW0]; exact (Below.refl _ w).alloc (Nat.le_refl _) _
  have hL := rlen_at (h.below hb0) 0 (by omega)
  obtain ⟨lv, hlv, hle⟩ : ∃ (a b : Nat), lenR R 0 = .tuple #[.int .i64 (a : Nat), .int .i64 (b : Nat)] ∧ b ≠ 1 := by
    unfold lenR
    cases R 0 with
    | none => exact ⟨0, 7, rfl, by decide⟩
    | some ws => exact ⟨ws.length, 0, rfl, by decide⟩
  rw [hle.1] at hL
  have hl1 := hle.2
  have dl : ((hlv : Int) == 1) = false := by simp; omega
  have hLH := Lib.hid hL
  have hX0H := Lib.hid hX0
  have hb0H := Lib.hid hb0
  have hW0H := Lib.hid hW0
  clear hL hle hX0 hb0 hW0
  go_enter Tryz.func70, Tryz.ntmps70
  go_wp2_with fail
  rw [← hW0H.out]
  refine hLH.out.mono ?_
  rintro e w1 ⟨rfl, rfl⟩
  clear hLH
  go_wp2_with fail
  refine (paOf_at rd _).mono ?_
  rintro e w2 ⟨rfl, hb2⟩
  have hb2H := Lib.hid (hb0H.out.trans (hb2.mono hb0H.out.size))
  have hz2 := hb2H.out.size
  have hX2H := Lib.hid (hX0H.out.below hb2)
  have hz3 := hX2H.out.lt
  have hrd2H := Lib.hid (h.below hb2H.out)
  have hcs2 := Lib.hid (hcs.below hb2H.out)
  clear hb2 h hcs
  have hX3 := hX2H.out.alloc (Obj.cells #[.func (.func (jnF rd)) #[] #[], .func (.func (ckF rd)) #[] #[]] 122)
  have hY3 := Box.new w2 122 [.func (.func (jnF rd)) #[] #[], .func (.func (ckF rd)) #[] #[]]
  have hb3 := hb2H.out.alloc hz2 (Obj.cells #[.func (.func (jnF rd)) #[] #[], .func (.func (ckF rd)) #[] #[]] 122)
  have hzz : (w2.alloc (Obj.cells #[.func (.func (jnF rd)) #[] #[], .func (.func (ckF rd)) #[] #[]] 122)).heap.size = w2.heap.size + 1 := by simp
  go_wp2_with fail
  obtain ⟨W3, hW3⟩ : ∃ W, W = w2.alloc (Obj.cells #[.func (.func (jnF rd)) #[] #[], .func (.func (ckF rd)) #[] #[]] 122) := ⟨_, rfl⟩
  obtain ⟨b3, hb3e⟩ : ∃ b, b = w2.heap.size := ⟨_, rfl⟩
  rw [← hW3] at hX3 hY3 hb3 hzz
  rw [← hb3e] at hY3 hzz
  have hrd3H : Hid (Rd N W3 s R n) := Lib.hid (by rw [hW3]; exact hrd2H.out.below ((Below.refl _ _).alloc (Nat.le_refl _) _))
  have hcs3 : Hid (HsAt W3 A hs) := Lib.hid (by rw [hW3]; exact hcs2.out.below ((Below.refl _ _).alloc (Nat.le_refl _) _))
  have hX3H := Lib.hid hX3
  have hY3H := Lib.hid hY3
  have hb3H := Lib.hid hb3
  rw [← hW3, ← hb3e]
  have hl0 : w.heap.size < W3.heap.size := by omega
  have hl3 : b3 < W3.heap.size := by omega
  have hne : w.heap.size < b3 := by omega
  clear hX3 hY3 hb3 hzz hW3 hb3e hrd2H hcs2 hX2H hb2H hz2 hz3 hX0H hb0H hW0H
  go_loopw [40] (fun iv wr => ∃ k : Nat, k ≤ hs.length ∧ iv = .int .i64 k ∧ Hid (Below W3.heap.size W3 wr) ∧ Hid (∀ i (hi : i < hs.length), i < k → isR R hs[i] = true)) (fun iv _ => hs.length - (intOf iv).toNat)
  case atStart => exact ⟨0, by omega, rfl, Lib.hid (Below.refl _ _), Lib.hid (fun i hi h0 => by omega)⟩
  case round =>
    obtain ⟨k, hk9, rfl, hbr, hbef⟩ := hrel
    by_cases hlt : k < hs.length
    · skip
      obtain ⟨g, hA, hcx⟩ := hcs3.out k hlt
      have c9 : wr.cell? ⟨g, k, none⟩ = some (.int .u64 (hs[k] : Nat)) := (hbr.out.cell (p := ⟨g, k, none⟩) (cell_lt hcx)).trans hcx
      have hxl := hlts.out hs[k] (List.getElem_mem hlt)
      have hrdr := hrd3H.out.below hbr.out
      have hnx : isR R hs[k] = true → ∀ i (hi : i < hs.length), i < k + 1 → isR R hs[i] = true := fun he i hi h1 => by
        by_cases e : i = k
        · subst e; exact he
        · exact hbef.out i hi (by omega)
      have hnxH := Lib.hid hnx
      clear hnx
      obtain ⟨q, hisx⟩ : ∃ q, isR R hs[k] = q := ⟨_, rfl⟩
      rw [hisx] at hnxH
      obtain ⟨y, hy⟩ : ∃ y, hs[k] = y := ⟨_, rfl⟩
      rw [hy] at c9 hxl hisx
      obtain ⟨nd, hnd⟩ : ∃ nd, nodeG R y = nd := ⟨_, rfl⟩
      obtain ⟨z, hz⟩ : ∃ z, nodeE R y = z := ⟨_, rfl⟩
      have hG := Lib.hid (nget_lit hrdr y hxl nd hnd z hz)
      have hz9 := hz ▸ nodeE_lt R y
      unfold isR at hisx
      rw [hz] at hisx
      subst hA
      clear hrdr hcx hnd hz hy
      by_cases hy0 : y = 0
      · have d : ((y : Int) != 0) = false := by simp; omega
        have hq : q = true := by rw [← hisx, hy0]; rfl
        have hnx2 := Lib.hid (hnxH.out hq)
        clear hisx hy0 hq hnxH
        go_wp2_with fail
        refine hG.out.mono ?_
        rintro e w5 ⟨rfl, hb5⟩
        have hb5H := Lib.hid (hbr.out.trans (hb5.mono hbr.out.size))
        have hz5 := hb5H.out.size
        clear hb5 hG c9
        go_wp2
        go_roundw
        case rel => exact ⟨k + 1, by omega, by go_num, Lib.hid (hb5H.out.alloc hz5 _), hnx2⟩
        case measure => simp [intOf]; omega
      · have d : ((y : Int) != 0) = true := by simp; omega
        by_cases hz0 : z = 0
        · have hq : q = true := by rw [← hisx, hz0]; simp
          have hnx2 := Lib.hid (hnxH.out hq)
          have d2 : ((z : Int) != 0) = false := by simp; omega
          clear hisx hy0 hz0 hq hnxH
          go_wp2_with fail
          refine hG.out.mono ?_
          rintro e w5 ⟨rfl, hb5⟩
          have hb5H := Lib.hid (hbr.out.trans (hb5.mono hbr.out.size))
          have hz5 := hb5H.out.size
          clear hb5 hG c9
          go_wp2
          go_roundw
          case rel => exact ⟨k + 1, by omega, by go_num, Lib.hid (hb5H.out.alloc hz5 _), hnx2⟩
          case measure => simp [intOf]; omega
        · have d2 : ((z : Int) != 0) = true := by simp; omega
          clear hisx hy0 hz0 hnxH
          go_wp2_with fail
          refine hG.out.mono ?_
          rintro e w5 ⟨rfl, hb5⟩
          have hb5H := Lib.hid (hbr.out.trans (hb5.mono hbr.out.size))
          have hz5 := hb5H.out.size
          clear hb5 hG c9
          have hXr := Lib.hid (hX3H.out.below hb5H.out)
          have hBr := Lib.hid (hb3H.out.trans (hb5H.out.mono hb3H.out.size))
          have hz2 : w.heap.size ≤ w5.heap.size := hBr.out.size
          have hl5 := hXr.out.lt
          have c0 := hXr.out.at' (i := 0) rfl
          have c1 := hXr.out.at' (i := 1) rfl
          have c2 := hXr.out.at' (i := 2) rfl
          have f0 := hXr.out.free 0
          have f1 := hXr.out.free 1
          have f2 := hXr.out.free 2
          go_wp2
          have hB := Box.alloc (((hXr.out.set 0 (.pointer none)).set 1 (.nilFunc)).set 2 (.nilFunc)) (Obj.cells #[.int .u64 (nd.key : Nat), .int .u64 (nd.val : Nat), .int .u64 (nd.left : Nat), .int .u64 (nd.right : Nat), .int .u64 (nd.mark : Nat), .int .u64 (nd.size : Nat)] 53)
          have k0 := hB.at' (i := 0) rfl
          have k1 := hB.at' (i := 1) rfl
          have k2 := hB.at' (i := 2) rfl
          refine bodyPost_ret (v := .tuple #[cut0, .int .i64 8]) ?_ rfl ⟨rfl, (((hBr.out.setCell (p := ⟨w.heap.size, 0, none⟩) (Nat.le_refl _) _).setCell (p := ⟨w.heap.size, 1, none⟩) (Nat.le_refl _) _).setCell (p := ⟨w.heap.size, 2, none⟩) (Nat.le_refl _) _).alloc (by simp; exact hz2) _⟩
          clear c0 c1 c2 f0 f1 f2 hB
          simp [results, Tryz.f70, go_sem, cut0, cutV, k0, k1, k2]
    · exfalso
      obtain ⟨x, hx, hf⟩ := hnos.out
      obtain ⟨i, hi, rfl⟩ := List.getElem_of_mem hx
      have := hbef.out i hi (by omega)
      rw [this] at hf
      cases hf
end
end Go.Proofs.YtjpmlneihbckpaaGreatDoor
/- The walks of package parts: a cutter's join. -/
set_option linter.unusedVariables false
set_option linter.unusedSimpArgs false
namespace Go.Proofs.YtjpmlneihbckpaaGreatDoor
open Go.RowKit Go.Shelf
section
variable {w w' : World} {s : Nat} {F : Nat → Prop} {R : Nat → Option (List Nat)} {H : List Nat} {P q most last G : Nat}
theorem avTop_lt (h : StoreIs w s F R H P q most last G) {l m r : Nat} (hl : l < 18446744073709551616) (hm : m < 18446744073709551616) (hr : r < 18446744073709551616) : (avTop R l m r).2.1 < 18446744073709551616 ∧ (avTop R l m r).2.2 < 10 := by
  obtain ⟨n, hrd, _⟩ := h.rd
  by_cases hc : m ≠ 0 ∧ isR R l = true ∧ isR R m = true ∧ isR R r = true
  · rw [avTop_yes hc, okW_2, okW_3]
    obtain ⟨e, w', fr, ⟨_, hb, _⟩, _⟩ := avJoin_at (nodeG R m) (hrd.nodeG m) m hm 100 w R l r (Nat.le_refl _) hl hr h []
    exact ⟨hb, (by omega : (0 : Nat) < 10)⟩
  · rw [avTop_no hc]
    exact ⟨Nat.zero_lt_succ _, (by omega : (8 : Nat) < 10)⟩
theorem rbTop_lt (h : StoreIs w s F R H P q most last G) (tn : Bool) {t m low : Nat} (ht : t < 18446744073709551616) (hm : m < 18446744073709551616) (hlow : low < 18446744073709551616) : (rbTop tn R t m low).2 < 18446744073709551616 := by
  obtain ⟨e, w', fr, ⟨_, hb, _⟩, _⟩ := rbJoin_at tn m low hm hlow 200 w R t (Nat.le_refl _) ht h []
  unfold rbTop
  generalize rbJoin tn m low 200 R t = p at *
  simp only
  split
  · exact hb
  · exact hb
theorem rbJ_lt (h : StoreIs w s F R H P q most last G) {l m r : Nat} (hl : l < 18446744073709551616) (hm : m < 18446744073709551616) (hr : r < 18446744073709551616) : (rbJ R l m r).2.1 < 18446744073709551616 ∧ (rbJ R l m r).2.2 < 10 := by
  by_cases hc : m ≠ 0 ∧ isR R l = true ∧ isR R m = true ∧ isR R r = true
  · rw [rbJ_yes hc, okW_2, okW_3]
    refine ⟨?_, (by omega : (0 : Nat) < 10)⟩
    unfold rbAll
    split
    · exact rbTop_lt h false hl hm hr
    · split
      · exact rbTop_lt h true hr hm hl
      · exact hm
  · rw [rbJ_no hc]
    exact ⟨Nat.zero_lt_succ _, (by omega : (8 : Nat) < 10)⟩
theorem joinK_at (h : StoreIs w s F R H P q most last G) (rd : Bool) {l m r : Nat} (hl : l < 18446744073709551616) (hm : m < 18446744073709551616) (hr : r < 18446744073709551616) :
    Calls Tryz.prog (jnF rd) #[.pointer (some ⟨s, 0, none⟩), .int .u64 (l : Nat), .int .u64 (m : Nat), .int .u64 (r : Nat)] w fun e w' => e = .returned (.tuple #[.int .u64 ((joinK rd R l m r).2.1 : Nat), .int .i64 ((joinK rd R l m r).2.2 : Nat)]) ∧ StoreIs w' s F (joinK rd R l m r).1 H P q most last G ∧ Turn w F w' F := by
  cases rd with
  | false => exact avTop_at h l m r hl hm hr
  | true => exact rbTop_at h l m r hl hm hr
theorem joinK_lt (h : StoreIs w s F R H P q most last G) (rd : Bool) {l m r : Nat} (hl : l < 18446744073709551616) (hm : m < 18446744073709551616) (hr : r < 18446744073709551616) : (joinK rd R l m r).2.1 < 18446744073709551616 ∧ (joinK rd R l m r).2.2 < 10 := by
  cases rd with
  | false => exact avTop_lt h hl hm hr
  | true => exact rbJ_lt h hl hm hr
set_option maxHeartbeats 2000000 in
set_option maxRecDepth 100000 in
theorem paJoin_at (h : StoreIs w s F R H P q most last G) (rd : Bool) {l m r : Nat} (hl : l < 18446744073709551616) (hm : m < 18446744073709551616) (hr : r < 18446744073709551616) :
    Calls Tryz.prog 73 #[cutV s rd, .int .u64 (l : Nat), .int .u64 (m : Nat), .int .u64 (r : Nat)] w fun e w' => e = .returned (.int .u64 ((cutJ rd R l m r).2 : Nat)) ∧ (cutJ rd R l m r).2 < 18446744073709551616 ∧ StoreIs w' s F (cutJ rd R l m r).1 H P q most last G ∧ Turn w F w' F := by
  cases rd with
  | false =>
    have hX0 := Box.new w 124 [.pointer (some ⟨s, 0, none⟩), .func (.func 124) #[] #[], .func (.func 125) #[] #[]]
    obtain ⟨W0, hW0⟩ : ∃ W, W = w.alloc (Obj.cells #[.pointer (some ⟨s, 0, none⟩), .func (.func 124) #[] #[], .func (.func 125) #[] #[]] 124) := ⟨_, rfl⟩
    have hb0 : Below w.heap.size w W0 := by rw [hW0]; exact (Below.refl _ w).alloc (Nat.le_refl _) _
    rw [← hW0] at hX0
    have c0 := hX0.at' (i := 0) rfl
    have c1 := hX0.at' (i := 1) rfl
    have hJ : Hid (Calls Tryz.prog 124 #[.pointer (some ⟨s, 0, none⟩), .int .u64 (l : Nat), .int .u64 (m : Nat), .int .u64 (r : Nat)] W0 _) := Lib.hid (joinK_at (h.below hb0) false hl hm hr)
    have hlt := joinK_lt h false hl hm hr
    have hv : cutJ false R l m r = ((joinK false R l m r).1, if (joinK false R l m r).2.2 = 0 then (joinK false R l m r).2.1 else m) := rfl
    have hb0H := Lib.hid hb0
    have hW0H := Lib.hid hW0
    generalize joinK false R l m r = p at *
    obtain ⟨R1, y, er⟩ := p
    simp only at hlt hv hJ
    obtain ⟨hy, her⟩ := hlt
    clear h hX0 hb0 hW0
    show Calls Tryz.prog 73 #[.agg #[.pointer (some ⟨s, 0, none⟩), .func (.func 124) #[] #[], .func (.func 125) #[] #[]], .int .u64 (l : Nat), .int .u64 (m : Nat), .int .u64 (r : Nat)] w _
    by_cases h0 : er = 0
    · rw [if_pos h0] at hv
      have hvH := Lib.hid hv
      have d : ((er : Int) != 0) = false := by simp; omega
      clear hv h0
      go_enter Tryz.func73, Tryz.ntmps73
      go_wp2_with fail
      rw [← hW0H.out]
      go_wp2_with fail
      refine hJ.out.mono ?_
      rintro e w1 ⟨rfl, hS1, hT1⟩
      have hS1H := Lib.hid hS1
      have hT1H := Lib.hid ((Turn.below (F := F) hb0H.out).trans hT1)
      clear hS1 hT1 hJ c0 c1
      go_wp2
      go_ret
      rw [hvH.out]
      exact ⟨rfl, hy, hS1H.out, hT1H.out⟩
    · rw [if_neg h0] at hv
      have hvH := Lib.hid hv
      have d : ((er : Int) != 0) = true := by simp; omega
      clear hv h0
      go_enter Tryz.func73, Tryz.ntmps73
      go_wp2_with fail
      rw [← hW0H.out]
      go_wp2_with fail
      refine hJ.out.mono ?_
      rintro e w1 ⟨rfl, hS1, hT1⟩
      have hS1H := Lib.hid hS1
      have hT1H := Lib.hid ((Turn.below (F := F) hb0H.out).trans hT1)
      clear hS1 hT1 hJ c0 c1
      go_wp2
      go_ret
      rw [hvH.out]
      exact ⟨rfl, hm, hS1H.out, hT1H.out⟩
  | true =>
    have hX0 := Box.new w 124 [.pointer (some ⟨s, 0, none⟩), .func (.func 24) #[] #[], .func (.func 21) #[] #[]]
    obtain ⟨W0, hW0⟩ : ∃ W, W = w.alloc (Obj.cells #[.pointer (some ⟨s, 0, none⟩), .func (.func 24) #[] #[], .func (.func 21) #[] #[]] 124) := ⟨_, rfl⟩
    have hb0 : Below w.heap.size w W0 := by rw [hW0]; exact (Below.refl _ w).alloc (Nat.le_refl _) _
    rw [← hW0] at hX0
    have c0 := hX0.at' (i := 0) rfl
    have c1 := hX0.at' (i := 1) rfl
    have hJ : Hid (Calls Tryz.prog 24 #[.pointer (some ⟨s, 0, none⟩), .int .u64 (l : Nat), .int .u64 (m : Nat), .int .u64 (r : Nat)] W0 _) := Lib.hid (joinK_at (h.below hb0) true hl hm hr)
    have hlt := joinK_lt h true hl hm hr
    have hv : cutJ true R l m r = ((joinK true R l m r).1, if (joinK true R l m r).2.2 = 0 then (joinK true R l m r).2.1 else m) := rfl
    have hb0H := Lib.hid hb0
    have hW0H := Lib.hid hW0
    generalize joinK true R l m r = p at *
    obtain ⟨R1, y, er⟩ := p
    simp only at hlt hv hJ
    obtain ⟨hy, her⟩ := hlt
    clear h hX0 hb0 hW0
    show Calls Tryz.prog 73 #[.agg #[.pointer (some ⟨s, 0, none⟩), .func (.func 24) #[] #[], .func (.func 21) #[] #[]], .int .u64 (l : Nat), .int .u64 (m : Nat), .int .u64 (r : Nat)] w _
    by_cases h0 : er = 0
    · rw [if_pos h0] at hv
      have hvH := Lib.hid hv
      have d : ((er : Int) != 0) = false := by simp; omega
      clear hv h0
      go_enter Tryz.func73, Tryz.ntmps73
      go_wp2_with fail
      rw [← hW0H.out]
      go_wp2_with fail
      refine hJ.out.mono ?_
      rintro e w1 ⟨rfl, hS1, hT1⟩
      have hS1H := Lib.hid hS1
      have hT1H := Lib.hid ((Turn.below (F := F) hb0H.out).trans hT1)
      clear hS1 hT1 hJ c0 c1
      go_wp2
      go_ret
      rw [hvH.out]
      exact ⟨rfl, hy, hS1H.out, hT1H.out⟩
    · rw [if_neg h0] at hv
      have hvH := Lib.hid hv
      have d : ((er : Int) != 0) = true := by simp; omega
      clear hv h0
      go_enter Tryz.func73, Tryz.ntmps73
      go_wp2_with fail
      rw [← hW0H.out]
      go_wp2_with fail
      refine hJ.out.mono ?_
      rintro e w1 ⟨rfl, hS1, hT1⟩
      have hS1H := Lib.hid hS1
      have hT1H := Lib.hid ((Turn.below (F := F) hb0H.out).trans hT1)
      clear hS1 hT1 hJ c0 c1
      go_wp2
      go_ret
      rw [hvH.out]
      exact ⟨rfl, hm, hS1H.out, hT1H.out⟩
end
end Go.Proofs.YtjpmlneihbckpaaGreatDoor
/- The walks of package parts: a cutter's key. -/
set_option linter.unusedVariables false
set_option linter.unusedSimpArgs false
namespace Go.Proofs.YtjpmlneihbckpaaGreatDoor
open Go.RowKit Go.Shelf
section
variable {w w' : World} {s N : Nat} {R : Nat → Option (List Nat)} {n : Nat}
set_option maxHeartbeats 4000000 in
set_option maxRecDepth 100000 in
theorem paKey_at (h : Rd N w s R n) (hsh : Short R) (rd : Bool) (x : Nat) (hx : x < 18446744073709551616) (nd : Nd) (hnd : nodeG R x = nd) :
    Calls Tryz.prog 103 #[cutV s rd, .int .u64 (x : Nat)] w fun e w' => e = .returned (.tuple #[.string (keyR R nd), .agg #[.int .u64 (nd.key : Nat), .int .u64 (nd.val : Nat), .int .u64 (nd.left : Nat), .int .u64 (nd.right : Nat), .int .u64 (nd.mark : Nat), .int .u64 (nd.size : Nat)]]) ∧ Below w.heap.size w w' := by
  obtain ⟨z, hz⟩ : ∃ z, nodeE R x = z := ⟨_, rfl⟩
  have hok := hnd ▸ h.nodeG x
  have hkey := hok.key
  have hX0 := Box.new w 124 [.pointer (some ⟨s, 0, none⟩), .func (.func (jnF rd)) #[] #[], .func (.func (ckF rd)) #[] #[]]
  obtain ⟨W0, hW0⟩ : ∃ W, W = w.alloc (Obj.cells #[.pointer (some ⟨s, 0, none⟩), .func (.func (jnF rd)) #[] #[], .func (.func (ckF rd)) #[] #[]] 124) := ⟨_, rfl⟩
  have hb0 : Below w.heap.size w W0 := by rw [hW0]; exact (Below.refl _ w).alloc (Nat.le_refl _) _
  rw [← hW0] at hX0
  have hz0 : w.heap.size < W0.heap.size := hX0.lt
  have hsz : W0.heap.size = w.heap.size + 1 := by rw [hW0]; simp
  obtain ⟨b1, hb1e⟩ : ∃ b, b = w.heap.size + 1 := ⟨_, rfl⟩
  obtain ⟨W1, hW1⟩ : ∃ W, W = W0.alloc (Obj.cells #[.int .u64 0, .int .u64 0, .int .u64 0, .int .u64 0, .int .u64 0, .int .u64 0] 53) := ⟨_, rfl⟩
  have hY1 : Box W1 b1 53 [.int .u64 0, .int .u64 0, .int .u64 0, .int .u64 0, .int .u64 0, .int .u64 0] := by rw [hW1, hb1e, ← hsz]; exact Box.new W0 53 [.int .u64 0, .int .u64 0, .int .u64 0, .int .u64 0, .int .u64 0, .int .u64 0]
  have hb1 : Below w.heap.size w W1 := by rw [hW1]; exact hb0.alloc (by omega) _
  have hX1 : Box W1 w.heap.size 124 [.pointer (some ⟨s, 0, none⟩), .func (.func (jnF rd)) #[] #[], .func (.func (ckF rd)) #[] #[]] := by rw [hW1]; exact hX0.alloc _
  have hGt := Lib.hid (nget_lit (h.below hb1) x hx nd hnd z hz)
  have hBg := Lib.hid (fun W (hb : Below w.heap.size w W) => by have := bget_at (h.below hb) hsh nd.key hkey; unfold blobV at this; exact this)
  have hv : Hid (keyR R nd = (blobR R nd.key).getD ⟨#[]⟩) := Lib.hid rfl
  have c0 := hX1.at' (i := 0) rfl
  have hX1H := Lib.hid hX1
  have hY1H := Lib.hid hY1
  have hb1H := Lib.hid hb1
  have hW0H := Lib.hid hW0
  have hW1H := Lib.hid hW1
  have hb1eH := Lib.hid hb1e
  have hbw : w.heap.size ≤ b1 := by omega
  generalize (blobR R nd.key).getD ⟨#[]⟩ = kk at *
  generalize blobE R nd.key = ke at *
  clear h hz hX0 hb0 hW0 hsz hb1e hW1 hY1 hb1 hX1 hok hnd hz0
  unfold cutV
  go_enter Tryz.func103, Tryz.ntmps103
  go_wp2_with fail
  rw [← hW0H.out, ← hW1H.out, ← hb1eH.out]
  go_wp2_with fail
  refine hGt.out.mono ?_
  rintro e w2 ⟨rfl, hb⟩
  have hb2H := Lib.hid (hb1H.out.trans (hb.mono hb1H.out.size))
  have hz2 := hb2H.out.size
  have hX2H := Lib.hid (hX1H.out.below hb)
  have hY2H := Lib.hid (hY1H.out.below hb)
  clear hb hGt c0
  have hb3 := hb2H.out.alloc hz2 (Obj.cells #[.int .u64 (nd.key : Nat), .int .u64 (nd.val : Nat), .int .u64 (nd.left : Nat), .int .u64 (nd.right : Nat), .int .u64 (nd.mark : Nat), .int .u64 (nd.size : Nat)] 53)
  obtain ⟨W3, hW3⟩ : ∃ W, W = w2.alloc (Obj.cells #[.int .u64 (nd.key : Nat), .int .u64 (nd.val : Nat), .int .u64 (nd.left : Nat), .int .u64 (nd.right : Nat), .int .u64 (nd.mark : Nat), .int .u64 (nd.size : Nat)] 53) := ⟨_, rfl⟩
  obtain ⟨b3, hb3e⟩ : ∃ b, b = w2.heap.size := ⟨_, rfl⟩
  have hZ3H : Hid (Box W3 b3 53 [.int .u64 (nd.key : Nat), .int .u64 (nd.val : Nat), .int .u64 (nd.left : Nat), .int .u64 (nd.right : Nat), .int .u64 (nd.mark : Nat), .int .u64 (nd.size : Nat)]) := Lib.hid (by rw [hW3, hb3e]; exact Box.new w2 53 [.int .u64 (nd.key : Nat), .int .u64 (nd.val : Nat), .int .u64 (nd.left : Nat), .int .u64 (nd.right : Nat), .int .u64 (nd.mark : Nat), .int .u64 (nd.size : Nat)])
  have hY3H : Hid (Box W3 b1 53 [.int .u64 0, .int .u64 0, .int .u64 0, .int .u64 0, .int .u64 0, .int .u64 0]) := Lib.hid (by rw [hW3]; exact hY2H.out.alloc _)
  have hX3H : Hid (Box W3 w.heap.size 124 [.pointer (some ⟨s, 0, none⟩), .func (.func (jnF rd)) #[] #[], .func (.func (ckF rd)) #[] #[]]) := Lib.hid (by rw [hW3]; exact hX2H.out.alloc _)
  rw [← hW3] at hb3
  have hb3H := Lib.hid hb3
  have hlt := hY2H.out.lt
  have hne : b1 ≠ b3 := by omega
  have c0 := hX2H.out.at' (i := 0) rfl
  have hW3H := Lib.hid hW3
  have hb3eH := Lib.hid hb3e
  have hlw := hX2H.out.lt
  clear hb3 hW3 hb3e
  go_wp2_with fail
  rw [← hW3H.out]
  refine (hBg.out _ hb3H.out).mono ?_
  rintro e w4 ⟨rfl, hb⟩
  rw [← hb3eH.out]
  have hb4H := Lib.hid (hb3H.out.trans (hb.mono hb3H.out.size))
  have hY4 := hY3H.out.below hb
  have hZ4 := hZ3H.out.below hb
  have hY4H := Lib.hid hY4
  have y0 := hY4.at' (i := 0) rfl
  have y1 := hY4.at' (i := 1) rfl
  have y2 := hY4.at' (i := 2) rfl
  have y3 := hY4.at' (i := 3) rfl
  have y4 := hY4.at' (i := 4) rfl
  have y5 := hY4.at' (i := 5) rfl
  have g0 := hY4.free 0
  have g1 := hY4.free 1
  have g2 := hY4.free 2
  have g3 := hY4.free 3
  have g4 := hY4.free 4
  have g5 := hY4.free 5
  have z0 := hZ4.at' (i := 0) rfl
  have z1 := hZ4.at' (i := 1) rfl
  have z2 := hZ4.at' (i := 2) rfl
  have z3 := hZ4.at' (i := 3) rfl
  have z4 := hZ4.at' (i := 4) rfl
  have z5 := hZ4.at' (i := 5) rfl
  have hly := hY4.lt
  have hlz := hZ4.lt
  clear hb hBg c0 hY4 hZ4 hX3H hY3H hZ3H hX2H hY2H hlt hlw hz2
  go_wp2_with fail
  go_region
  all_goals (try go_wp2)
  obtain ⟨W5, hW5⟩ : ∃ W, W = ((((((w4.setCell ⟨b1, 0, none⟩ (.int .u64 (nd.key : Nat))).setCell ⟨b1, 1, none⟩ (.int .u64 (nd.val : Nat))).setCell ⟨b1, 2, none⟩ (.int .u64 (nd.left : Nat))).setCell ⟨b1, 3, none⟩ (.int .u64 (nd.right : Nat))).setCell ⟨b1, 4, none⟩ (.int .u64 (nd.mark : Nat))).setCell ⟨b1, 5, none⟩ (.int .u64 (nd.size : Nat))) := ⟨_, rfl⟩
  have hB : Box W5 b1 53 [.int .u64 (nd.key : Nat), .int .u64 (nd.val : Nat), .int .u64 (nd.left : Nat), .int .u64 (nd.right : Nat), .int .u64 (nd.mark : Nat), .int .u64 (nd.size : Nat)] := by
    rw [hW5]
    exact hY4H.out.six (.int .u64 (nd.key : Nat)) (.int .u64 (nd.val : Nat)) (.int .u64 (nd.left : Nat)) (.int .u64 (nd.right : Nat)) (.int .u64 (nd.mark : Nat)) (.int .u64 (nd.size : Nat))
  have hb5 : Below w.heap.size w W5 := by
    rw [hW5]
    exact below_six hb4H.out hbw _ _ _ _ _ _
  rw [← hW5]
  have hB' : Box W5.drew b1 53 [.int .u64 (nd.key : Nat), .int .u64 (nd.val : Nat), .int .u64 (nd.left : Nat), .int .u64 (nd.right : Nat), .int .u64 (nd.mark : Nat), .int .u64 (nd.size : Nat)] := hB.below (below_drawn W5)
  have hb6 : Below w.heap.size w W5.drew := hb5.trans ((below_drawn W5).mono hb5.size)
  have k0 := hB'.at' (i := 0) rfl
  have k1 := hB'.at' (i := 1) rfl
  have k2 := hB'.at' (i := 2) rfl
  have k3 := hB'.at' (i := 3) rfl
  have k4 := hB'.at' (i := 4) rfl
  have k5 := hB'.at' (i := 5) rfl
  generalize W5.drew = W6 at *
  refine bodyPost_ret (v := .tuple #[.string kk, .agg #[.int .u64 (nd.key : Nat), .int .u64 (nd.val : Nat), .int .u64 (nd.left : Nat), .int .u64 (nd.right : Nat), .int .u64 (nd.mark : Nat), .int .u64 (nd.size : Nat)]]) ?_ rfl ⟨by rw [hv.out], hb6⟩
  clear hB hB' hb5 hW5 y0 y1 y2 y3 y4 y5 z0 z1 z2 z3 z4 z5 g0 g1 g2 g3 g4 g5
  simp [results, Tryz.f103, go_sem, k0, k1, k2, k3, k4, k5]
end
end Go.Proofs.YtjpmlneihbckpaaGreatDoor
/- The walks of package parts: a cutter's split. -/
set_option linter.unusedVariables false
set_option linter.unusedSimpArgs false
namespace Go.Proofs.YtjpmlneihbckpaaGreatDoor
open Go.RowKit Go.Shelf
section
variable {s : Nat} {F : Nat → Prop} {H : List Nat} {P q most last G : Nat}
set_option maxHeartbeats 8000000 in
set_option maxRecDepth 100000 in
theorem paSplit_at (rd : Bool) (key : ByteArray) : ∀ (f : Nat) (w : World) (R : Nat → Option (List Nat)) (x : Nat), f ≤ 200 → x < 18446744073709551616 → Short R → StoreIs w s F R H P q most last G →
    Calls Tryz.prog 72 #[cutV s rd, .int .u64 (x : Nat), .string key, .int .i64 ((200 - f : Nat) : Int)] w fun e w' => e = .returned (.tuple #[.int .u64 ((cutS rd key f R x).2.1 : Nat), .int .u64 ((cutS rd key f R x).2.2.1 : Nat), .int .u64 ((cutS rd key f R x).2.2.2 : Nat)]) ∧ ((cutS rd key f R x).2.1 < 18446744073709551616 ∧ (cutS rd key f R x).2.2.1 < 18446744073709551616 ∧ (cutS rd key f R x).2.2.2 < 18446744073709551616) ∧ StoreIs w' s F (cutS rd key f R x).1 H P q most last G ∧ Turn w F w' F
  | 0, w, R, x, hf, hx, hsh, h => by
    have hX0 := Box.new w 124 [.pointer (some ⟨s, 0, none⟩), .func (.func (jnF rd)) #[] #[], .func (.func (ckF rd)) #[] #[]]
    obtain ⟨W0, hW0⟩ : ∃ W, W = w.alloc (Obj.cells #[.pointer (some ⟨s, 0, none⟩), .func (.func (jnF rd)) #[] #[], .func (.func (ckF rd)) #[] #[]] 124) := ⟨_, rfl⟩
    have hb0 : Below w.heap.size w W0 := by rw [hW0]; exact (Below.refl _ w).alloc (Nat.le_refl _) _
    rw [← hW0] at hX0
    have hFb0 : ¬ F w.heap.size := fun hf => by have := h.lt hf; omega
    have hFl := Lib.hid (fun b (hf : F b) => h.lt hf)
    have hS0 := h.below hb0
    obtain ⟨n0, hr0, _⟩ := hS0.rd
    have hX0H := Lib.hid hX0
    have hT0H : Hid (Turn w F W0 F) := Lib.hid (Turn.below hb0)
    have hB0H := Lib.hid hb0
    have hW0H := Lib.hid hW0
    have hS0H := Lib.hid hS0
    have hr0H := Lib.hid hr0
    clear hX0 hb0 hW0 hS0
    clear h hr0
    have hvH : Hid (cutS rd key 0 R x = (R, 0, 0, 0)) := Lib.hid rfl
    show Calls Tryz.prog 72 #[.agg #[.pointer (some ⟨s, 0, none⟩), .func (.func (jnF rd)) #[] #[], .func (.func (ckF rd)) #[] #[]], .int .u64 (x : Nat), .string key, .int .i64 200] w _
    by_cases hx0 : x = 0
    · have d : ((x : Int) == 0) = true := by simp; omega
      clear hx0
      go_enter Tryz.func72, Tryz.ntmps72
      go_wp2_with fail
      rw [← hW0H.out]
      refine bodyPost_ret (v := .tuple #[.int .u64 0, .int .u64 0, .int .u64 0]) (by simp [results, Tryz.f72, go_sem]) rfl ?_
      rw [hvH.out]
      exact ⟨rfl, ⟨Nat.zero_lt_succ _, Nat.zero_lt_succ _, Nat.zero_lt_succ _⟩, hS0H.out, hT0H.out⟩
    · have d : ((x : Int) == 0) = false := by simp; omega
      clear hx0
      go_enter Tryz.func72, Tryz.ntmps72
      go_wp2_with fail
      rw [← hW0H.out]
      refine bodyPost_ret (v := .tuple #[.int .u64 0, .int .u64 0, .int .u64 0]) (by simp [results, Tryz.f72, go_sem]) rfl ?_
      rw [hvH.out]
      exact ⟨rfl, ⟨Nat.zero_lt_succ _, Nat.zero_lt_succ _, Nat.zero_lt_succ _⟩, hS0H.out, hT0H.out⟩
  | f + 1, w, R, x, hf, hx, hsh, h => by
    have hX0 := Box.new w 124 [.pointer (some ⟨s, 0, none⟩), .func (.func (jnF rd)) #[] #[], .func (.func (ckF rd)) #[] #[]]
    obtain ⟨W0, hW0⟩ : ∃ W, W = w.alloc (Obj.cells #[.pointer (some ⟨s, 0, none⟩), .func (.func (jnF rd)) #[] #[], .func (.func (ckF rd)) #[] #[]] 124) := ⟨_, rfl⟩
    have hb0 : Below w.heap.size w W0 := by rw [hW0]; exact (Below.refl _ w).alloc (Nat.le_refl _) _
    rw [← hW0] at hX0
    have hFb0 : ¬ F w.heap.size := fun hf => by have := h.lt hf; omega
    have hFl := Lib.hid (fun b (hf : F b) => h.lt hf)
    have hS0 := h.below hb0
    obtain ⟨n0, hr0, _⟩ := hS0.rd
    have hX0H := Lib.hid hX0
    have hT0H : Hid (Turn w F W0 F) := Lib.hid (Turn.below hb0)
    have hB0H := Lib.hid hb0
    have hW0H := Lib.hid hW0
    have hS0H := Lib.hid hS0
    have hr0H := Lib.hid hr0
    clear hX0 hb0 hW0 hS0
    have hdn : Hid (((200 - f : Nat) : Int) = ((200 - (f + 1) : Nat) : Int) + 1) := Lib.hid (by omega)
    have hd0 : (((200 - (f + 1) : Nat) : Int) == 200) = false := by simp; omega
    obtain ⟨d, hd⟩ : ∃ d, d = 200 - (f + 1) := ⟨_, rfl⟩
    rw [← hd] at hdn hd0 ⊢
    have hdl : d < 200 := by omega
    clear hd
    have ih := fun w R x => paSplit_at rd key f w R x
    obtain ⟨nd, hnd⟩ : ∃ nd, nodeG R x = nd := ⟨_, rfl⟩
    have hok := hnd ▸ hr0.nodeG x
    have hl := hok.left
    have hr := hok.right
    clear h hr0 hok
    unfold cutV
    by_cases hx0 : x = 0
    · have hvH : Hid (cutS rd key (f + 1) R x = (R, 0, 0, 0)) := Lib.hid (by rw [cutS, if_pos hx0])
      have dx : ((x : Int) == 0) = true := by simp; omega
      clear hx0 ih hnd hdn
      go_enter Tryz.func72, Tryz.ntmps72
      go_wp2_with fail
      rw [← hW0H.out]
      refine bodyPost_ret (v := .tuple #[.int .u64 0, .int .u64 0, .int .u64 0]) (by simp [results, Tryz.f72, go_sem]) rfl ?_
      rw [hvH.out]
      exact ⟨rfl, ⟨Nat.zero_lt_succ _, Nat.zero_lt_succ _, Nat.zero_lt_succ _⟩, hS0H.out, hT0H.out⟩
    · have dx : ((x : Int) == 0) = false := by simp; omega
      have hv : cutS rd key (f + 1) R x = if Tx.cmp key (keyR R nd) < 0 then
      ((cutJ rd (cutS rd key f R nd.left).1 (cutS rd key f R nd.left).2.2.2 x nd.right).1, (cutS rd key f R nd.left).2.1, (cutS rd key f R nd.left).2.2.1, (cutJ rd (cutS rd key f R nd.left).1 (cutS rd key f R nd.left).2.2.2 x nd.right).2)
      else if 0 < Tx.cmp key (keyR R nd) then
      ((cutJ rd (cutS rd key f R nd.right).1 nd.left x (cutS rd key f R nd.right).2.1).1, (cutJ rd (cutS rd key f R nd.right).1 nd.left x (cutS rd key f R nd.right).2.1).2, (cutS rd key f R nd.right).2.2.1, (cutS rd key f R nd.right).2.2.2)
      else (R, nd.left, x, nd.right) := by rw [cutS, if_neg hx0, hnd]
      clear hx0
      go_enter Tryz.func72, Tryz.ntmps72
      go_wp2_with fail
      rw [← hW0H.out]
      have hK := Lib.hid (paKey_at hr0H.out hsh rd x hx nd hnd)
      have c0 := hX0H.out.at' (i := 0) rfl
      have c1 := hX0H.out.at' (i := 1) rfl
      have c2 := hX0H.out.at' (i := 2) rfl
      go_wp2_with fail
      refine hK.out.mono ?_
      rintro e W1 ⟨rfl, hb⟩
      have hB1H := Lib.hid (hB0H.out.trans (hb.mono hB0H.out.size))
      have hX1H := Lib.hid (hX0H.out.below hb)
      have hS1H := Lib.hid (hS0H.out.below hb)
      have hz1 := hB1H.out.size
      clear hb hK c0 c1 c2 hr0H hX0H hS0H hB0H hT0H
      obtain ⟨kk, hkk⟩ : ∃ kk, keyR R nd = kk := ⟨_, rfl⟩
      have hcmp := fun W => Tx.cmp_call key kk W
      rw [hkk] at hv
      obtain ⟨c, hc⟩ : ∃ c, Tx.cmp key kk = c := ⟨_, rfl⟩
      rw [hc] at hv
      simp only [hc] at hcmp
      have hcmpH := Lib.hid hcmp
      rw [hkk]
      clear hkk hc hcmp hnd
      obtain ⟨W2, hW2⟩ : ∃ W, W = W1.alloc (Obj.cells #[.int .u64 (nd.key : Nat), .int .u64 (nd.val : Nat), .int .u64 (nd.left : Nat), .int .u64 (nd.right : Nat), .int .u64 (nd.mark : Nat), .int .u64 (nd.size : Nat)] 53) := ⟨_, rfl⟩
      obtain ⟨b2, hb2e⟩ : ∃ b, b = W1.heap.size := ⟨_, rfl⟩
      have hY2H : Hid (Box W2 b2 53 [.int .u64 (nd.key : Nat), .int .u64 (nd.val : Nat), .int .u64 (nd.left : Nat), .int .u64 (nd.right : Nat), .int .u64 (nd.mark : Nat), .int .u64 (nd.size : Nat)]) := Lib.hid (by rw [hW2, hb2e]; exact Box.new W1 53 [.int .u64 (nd.key : Nat), .int .u64 (nd.val : Nat), .int .u64 (nd.left : Nat), .int .u64 (nd.right : Nat), .int .u64 (nd.mark : Nat), .int .u64 (nd.size : Nat)])
      have hX2H : Hid (Box W2 w.heap.size 124 [.pointer (some ⟨s, 0, none⟩), .func (.func (jnF rd)) #[] #[], .func (.func (ckF rd)) #[] #[]]) := Lib.hid (by rw [hW2]; exact hX1H.out.alloc _)
      have hB2H : Hid (Below w.heap.size w W2) := Lib.hid (by rw [hW2]; exact hB1H.out.alloc hz1 _)
      have hS2H : Hid (StoreIs W2 s F R H P q most last G) := Lib.hid (by rw [hW2]; exact hS1H.out.below ((Below.refl _ _).alloc (Nat.le_refl _) _))
      have hFb2 : ¬ F b2 := fun hf => by have := hFl.out b2 hf; omega
      have hW2H := Lib.hid hW2
      have hb2eH := Lib.hid hb2e
      clear hW2 hb2e hX1H hS1H hB1H
      go_wp2_with fail
      rw [← hW2H.out]
      refine (hcmpH.out _).mono ?_
      rintro e W2' ⟨rfl, rfl⟩
      rw [← hb2eH.out]
      clear hcmpH
      by_cases q1 : c < 0
      · have e1 : decide (c < 0) = true := decide_eq_true q1
        rw [if_pos q1] at hv
        clear q1
        have hih := ih W2 R nd.left (by omega) hl hsh hS2H.out
        rw [hdn.out] at hih
        unfold cutV at hih
        have hk := cutS_keeps rd key f R nd.left
        generalize cutS rd key f R nd.left = p at *
        obtain ⟨Ra, pl, pm, pr⟩ := p
        simp only at hih hv hk
        have hihH := Lib.hid hih
        have hvH := Lib.hid hv
        clear hih hv hdn ih hsh hk
        have c0 := hX2H.out.at' (i := 0) rfl
        have c1 := hX2H.out.at' (i := 1) rfl
        have c2 := hX2H.out.at' (i := 2) rfl
        have y2 := hY2H.out.at' (i := 2) rfl
        have y3 := hY2H.out.at' (i := 3) rfl
        go_wp2_with fail
        refine hihH.out.mono ?_
        rintro e W3 ⟨rfl, ⟨hpl, hpm, hpr⟩, hS, hT⟩
        have hX3H := Lib.hid (hX2H.out.turn hT hFb0)
        have hY3H := Lib.hid (hY2H.out.turn hT hFb2)
        have hT3H := Lib.hid ((Turn.below (F := F) hB2H.out).trans hT)
        have hJ := paJoin_at hS rd hpr hx hr
        unfold cutV at hJ
        have hJH := Lib.hid hJ
        clear hS hT hihH hJ hX2H hY2H hS2H hB2H
        clear c0 c1 c2 y2 y3
        generalize cutJ rd Ra pr x nd.right = pj at *
        obtain ⟨Rb, y⟩ := pj
        simp only at hJH hvH
        have c0 := hX3H.out.at' (i := 0) rfl
        have c1 := hX3H.out.at' (i := 1) rfl
        have c2 := hX3H.out.at' (i := 2) rfl
        have y2 := hY3H.out.at' (i := 2) rfl
        have y3 := hY3H.out.at' (i := 3) rfl
        go_wp2_with fail
        refine hJH.out.mono ?_
        rintro e W4 ⟨rfl, hy, hS, hT⟩
        have hS4H := Lib.hid hS
        have hT4H := Lib.hid (hT3H.out.trans hT)
        clear hS hT hJH hX3H hY3H hT3H
        clear c0 c1 c2 y2 y3
        go_wp2
        refine bodyPost_ret (v := .tuple #[.int .u64 (pl : Nat), .int .u64 (pm : Nat), .int .u64 (y : Nat)]) (by simp [results, Tryz.f72, go_sem]) rfl ?_
        rw [hvH.out]
        exact ⟨rfl, ⟨hpl, hpm, hy⟩, hS4H.out, hT4H.out⟩
      · have e1 : decide (c < 0) = false := decide_eq_false q1
        rw [if_neg q1] at hv
        by_cases q2 : 0 < c
        · have e2 : decide (0 < c) = true := decide_eq_true q2
          rw [if_pos q2] at hv
          clear q1 q2
          have hih := ih W2 R nd.right (by omega) hr hsh hS2H.out
          rw [hdn.out] at hih
          unfold cutV at hih
          have hk := cutS_keeps rd key f R nd.right
          generalize cutS rd key f R nd.right = p at *
          obtain ⟨Ra, pl, pm, pr⟩ := p
          simp only at hih hv hk
          have hihH := Lib.hid hih
          have hvH := Lib.hid hv
          clear hih hv hdn ih hsh hk
          have c0 := hX2H.out.at' (i := 0) rfl
          have c1 := hX2H.out.at' (i := 1) rfl
          have c2 := hX2H.out.at' (i := 2) rfl
          have y2 := hY2H.out.at' (i := 2) rfl
          have y3 := hY2H.out.at' (i := 3) rfl
          go_wp2_with fail
          refine hihH.out.mono ?_
          rintro e W3 ⟨rfl, ⟨hpl, hpm, hpr⟩, hS, hT⟩
          have hX3H := Lib.hid (hX2H.out.turn hT hFb0)
          have hY3H := Lib.hid (hY2H.out.turn hT hFb2)
          have hT3H := Lib.hid ((Turn.below (F := F) hB2H.out).trans hT)
          have hJ := paJoin_at hS rd hl hx hpl
          unfold cutV at hJ
          have hJH := Lib.hid hJ
          clear hS hT hihH hJ hX2H hY2H hS2H hB2H
          clear c0 c1 c2 y2 y3
          generalize cutJ rd Ra nd.left x pl = pj at *
          obtain ⟨Rb, y⟩ := pj
          simp only at hJH hvH
          have c0 := hX3H.out.at' (i := 0) rfl
          have c1 := hX3H.out.at' (i := 1) rfl
          have c2 := hX3H.out.at' (i := 2) rfl
          have y2 := hY3H.out.at' (i := 2) rfl
          have y3 := hY3H.out.at' (i := 3) rfl
          go_wp2_with fail
          refine hJH.out.mono ?_
          rintro e W4 ⟨rfl, hy, hS, hT⟩
          have hS4H := Lib.hid hS
          have hT4H := Lib.hid (hT3H.out.trans hT)
          clear hS hT hJH hX3H hY3H hT3H
          clear c0 c1 c2 y2 y3
          go_wp2
          refine bodyPost_ret (v := .tuple #[.int .u64 (y : Nat), .int .u64 (pm : Nat), .int .u64 (pr : Nat)]) (by simp [results, Tryz.f72, go_sem]) rfl ?_
          rw [hvH.out]
          exact ⟨rfl, ⟨hy, hpm, hpr⟩, hS4H.out, hT4H.out⟩
        · have e2 : decide (0 < c) = false := decide_eq_false q2
          rw [if_neg q2] at hv
          have hvH := Lib.hid hv
          clear q1 q2 hv hdn ih
          have c0 := hX2H.out.at' (i := 0) rfl
          have c1 := hX2H.out.at' (i := 1) rfl
          have c2 := hX2H.out.at' (i := 2) rfl
          have y2 := hY2H.out.at' (i := 2) rfl
          have y3 := hY2H.out.at' (i := 3) rfl
          go_wp2_with fail
          go_quiet (fail)
          go_wp2
          refine bodyPost_ret (v := .tuple #[.int .u64 (nd.left : Nat), .int .u64 (x : Nat), .int .u64 (nd.right : Nat)]) (by simp [results, Tryz.f72, go_sem]) rfl ?_
          rw [hvH.out]
          exact ⟨rfl, ⟨hl, hx, hr⟩, hS2H.out.below (Tx.drewN_below _ _), (Turn.below (F := F) hB2H.out).trans (Turn.below (Tx.drewN_below _ _))⟩
end
end Go.Proofs.YtjpmlneihbckpaaGreatDoor

/-
  The seat's own texts, shared part e: PaW1, PaW2, PaW3, PaW4, PaW5, PaW6, PaW7, PrsF, CutSm, PaL, Shr.
-/
import Derived.Test.YtijpmjaeanocpaaGreatDoorAPd
import Derived.Laws.EntriesVeiled

set_option linter.unusedVariables false
set_option linter.unusedSimpArgs false
namespace Go.Proofs.YtijpmjaeanocpaaGreatDoor
open Go.RowKit Go.Shelf
def jnF (rd : Bool) : FuncId := if rd then 169 else 167
def ckF (rd : Bool) : FuncId := if rd then 170 else 168
def kindZ (rd : Bool) : Int := if rd then 2 else 1
set_option maxRecDepth 100000 in
theorem paOf_at (rd : Bool) (w : World) : Calls Tryz.prog 115 #[.int .i64 (kindZ rd)] w fun e w' => e = .returned (.tuple #[.agg #[.func (.func (jnF rd)) #[] #[], .func (.func (ckF rd)) #[] #[]], .bool true]) ∧ Below w.heap.size w w' := by
  cases rd with
  | false =>
    unfold jnF ckF kindZ
    go_enter Tryz.func115, Tryz.ntmps115
    go_wp2
    exact bodyPost_ret (v := .tuple #[.agg #[.func (.func (jnF false)) #[] #[], .func (.func (ckF false)) #[] #[]], .bool true]) (by simp [results, Tryz.f115, go_sem, jnF, ckF]) rfl ⟨rfl, (Below.refl _ _).alloc (Nat.le_refl _) _⟩
  | true =>
    unfold jnF ckF kindZ
    go_enter Tryz.func115, Tryz.ntmps115
    go_wp2
    exact bodyPost_ret (v := .tuple #[.agg #[.func (.func (jnF true)) #[] #[], .func (.func (ckF true)) #[] #[]], .bool true]) (by simp [results, Tryz.f115, go_sem, jnF, ckF]) rfl ⟨rfl, (Below.refl _ _).alloc (Nat.le_refl _) _⟩
end Go.Proofs.YtijpmjaeanocpaaGreatDoor

set_option linter.unusedVariables false
set_option linter.unusedSimpArgs false
namespace Go.Proofs.YtijpmjaeanocpaaGreatDoor
open Go.RowKit Go.Shelf
def cutV (s : Nat) (rd : Bool) : Value := .agg #[.pointer (some ⟨s, 0, none⟩), .func (.func (jnF rd)) #[] #[], .func (.func (ckF rd)) #[] #[]]
def cut0 : Value := .agg #[.pointer none, .nilFunc, .nilFunc]
def HsAt (w : World) (A : Option Addr) (hs : List Nat) : Prop := ∀ i (hi : i < hs.length), ∃ g, A = some ⟨g, 0, none⟩ ∧ w.cell? ⟨g, i, none⟩ = some (.int .u64 (hs[i] : Nat))
theorem HsAt.below {w w' : World} {A : Option Addr} {hs : List Nat} (h : HsAt w A hs) (hb : Below w.heap.size w w') : HsAt w' A hs := fun i hi => by
  obtain ⟨g, h1, h2⟩ := h i hi
  exact ⟨g, h1, (hb.cell (p := ⟨g, i, none⟩) (cell_lt h2)).trans h2⟩
theorem HsAt.nil {w : World} (A : Option Addr) : HsAt w A [] := fun i hi => by cases hi
section
variable {w w' : World} {s N : Nat} {R : Nat → Option (List Nat)} {n : Nat}
set_option maxHeartbeats 4000000 in
set_option maxRecDepth 100000 in
theorem paAsk_ok (h : Rd N w s R n) (rd : Bool) (key : ByteArray) (hk : key.size ≤ 1000) (A : Option Addr) (c : Nat) (hs : List Nat) (hlen : hs.length ≤ 1000) (hcs : HsAt w A hs) (hlt : ∀ x ∈ hs, x < 18446744073709551616) (hok : ∀ x ∈ hs, isR R x = true) :
    Calls Tryz.prog 60 #[.pointer (some ⟨s, 0, none⟩), .int .i64 (kindZ rd), .string key, .slice A hs.length c] w fun e w' => e = .returned (.tuple #[cutV s rd, .int .i64 0]) ∧ Below w.heap.size w w' := by
  have hlts := Lib.hid hlt
  have hoks := Lib.hid hok
  clear hlt hok
  obtain ⟨W0, hW0⟩ : ∃ W, W = w.alloc (Obj.cells #[.pointer none, .nilFunc, .nilFunc] 114) := ⟨_, rfl⟩
  have hX0 : Box W0 w.heap.size 114 [.pointer none, .nilFunc, .nilFunc] := by rw [hW0]; exact Box.new w 114 [.pointer none, .nilFunc, .nilFunc]
  have hb0 : Below w.heap.size w W0 := by rw [hW0]; exact (Below.refl _ w).alloc (Nat.le_refl _) _
  have hL := rlen_at (h.below hb0) 0 (by omega)
  obtain ⟨lv, hlv, hle⟩ : ∃ (a b : Nat), lenR R 0 = .tuple #[.int .i64 (a : Nat), .int .i64 (b : Nat)] ∧ b ≠ 1 := by
    unfold lenR
    cases R 0 with
    | none => exact ⟨0, 7, rfl, by decide⟩
    | some ws => exact ⟨ws.length, 0, rfl, by decide⟩
  rw [hle.1] at hL
  have hl1 := hle.2
  have dl : ((hlv : Int) == 1) = false := by simp; omega
  have hLH := Lib.hid hL
  have hX0H := Lib.hid hX0
  have hb0H := Lib.hid hb0
  have hW0H := Lib.hid hW0
  clear hL hle hX0 hb0 hW0
  go_enter Tryz.func60, Tryz.ntmps60
  go_wp2_with fail
  rw [← hW0H.out]
  refine hLH.out.mono ?_
  rintro e w1 ⟨rfl, rfl⟩
  clear hLH
  go_wp2_with fail
  refine (paOf_at rd _).mono ?_
  rintro e w2 ⟨rfl, hb2⟩
  have hb2H := Lib.hid (hb0H.out.trans (hb2.mono hb0H.out.size))
  have hz2 := hb2H.out.size
  have hX2H := Lib.hid (hX0H.out.below hb2)
  have hz3 := hX2H.out.lt
  have hrd2H := Lib.hid (h.below hb2H.out)
  have hcs2 := Lib.hid (hcs.below hb2H.out)
  clear hb2 h hcs
  have hX3 := hX2H.out.alloc (Obj.cells #[.func (.func (jnF rd)) #[] #[], .func (.func (ckF rd)) #[] #[]] 112)
  have hY3 := Box.new w2 112 [.func (.func (jnF rd)) #[] #[], .func (.func (ckF rd)) #[] #[]]
  have hb3 := hb2H.out.alloc hz2 (Obj.cells #[.func (.func (jnF rd)) #[] #[], .func (.func (ckF rd)) #[] #[]] 112)
  have hzz : (w2.alloc (Obj.cells #[.func (.func (jnF rd)) #[] #[], .func (.func (ckF rd)) #[] #[]] 112)).heap.size = w2.heap.size + 1 := by simp
  go_wp2_with fail
  obtain ⟨W3, hW3⟩ : ∃ W, W = w2.alloc (Obj.cells #[.func (.func (jnF rd)) #[] #[], .func (.func (ckF rd)) #[] #[]] 112) := ⟨_, rfl⟩
  obtain ⟨b3, hb3e⟩ : ∃ b, b = w2.heap.size := ⟨_, rfl⟩
  rw [← hW3] at hX3 hY3 hb3 hzz
  rw [← hb3e] at hY3 hzz
  have hrd3H : Hid (Rd N W3 s R n) := Lib.hid (by rw [hW3]; exact hrd2H.out.below ((Below.refl _ _).alloc (Nat.le_refl _) _))
  have hcs3 : Hid (HsAt W3 A hs) := Lib.hid (by rw [hW3]; exact hcs2.out.below ((Below.refl _ _).alloc (Nat.le_refl _) _))
  have hX3H := Lib.hid hX3
  have hY3H := Lib.hid hY3
  have hb3H := Lib.hid hb3
  rw [← hW3, ← hb3e]
  have hl0 : w.heap.size < W3.heap.size := by omega
  have hl3 : b3 < W3.heap.size := by omega
  have hne : w.heap.size < b3 := by omega
  clear hX3 hY3 hb3 hzz hW3 hb3e hrd2H hcs2 hX2H hb2H hz2 hz3 hX0H hb0H hW0H
  go_loopw [40] (fun iv wr => ∃ k : Nat, k ≤ hs.length ∧ iv = .int .i64 k ∧ Hid (Below W3.heap.size W3 wr)) (fun iv _ => hs.length - (intOf iv).toNat)
  case atStart => exact ⟨0, by omega, rfl, Lib.hid (Below.refl _ _)⟩
  case round =>
    obtain ⟨k, hk9, rfl, hbr⟩ := hrel
    by_cases hlt : k < hs.length
    · skip
      obtain ⟨g, hA, hcx⟩ := hcs3.out k hlt
      have c9 : wr.cell? ⟨g, k, none⟩ = some (.int .u64 (hs[k] : Nat)) := (hbr.out.cell (p := ⟨g, k, none⟩) (cell_lt hcx)).trans hcx
      have hxl := hlts.out hs[k] (List.getElem_mem hlt)
      have hrdr := hrd3H.out.below hbr.out
      have hisx := hoks.out hs[k] (List.getElem_mem hlt)
      obtain ⟨y, hy⟩ : ∃ y, hs[k] = y := ⟨_, rfl⟩
      rw [hy] at c9 hxl hisx
      obtain ⟨nd, hnd⟩ : ∃ nd, nodeG R y = nd := ⟨_, rfl⟩
      obtain ⟨z, hz⟩ : ∃ z, nodeE R y = z := ⟨_, rfl⟩
      have hG := Lib.hid (nget_lit hrdr y hxl nd hnd z hz)
      have hz9 := hz ▸ nodeE_lt R y
      unfold isR at hisx
      rw [hz] at hisx
      subst hA
      clear hrdr hcx hnd hz hy
      by_cases hy0 : y = 0
      · have d : ((y : Int) != 0) = false := by simp; omega
        clear hisx hy0
        go_wp2_with fail
        refine hG.out.mono ?_
        rintro e w5 ⟨rfl, hb5⟩
        have hb5H := Lib.hid (hbr.out.trans (hb5.mono hbr.out.size))
        have hz5 := hb5H.out.size
        clear hb5 hG c9
        go_wp2
        go_roundw
        case rel => exact ⟨k + 1, by omega, by go_num, Lib.hid (hb5H.out.alloc hz5 _)⟩
        case measure => simp [intOf]; omega
      · have d : ((y : Int) != 0) = true := by simp; omega
        have hz0 : z = 0 := by simpa [hy0] using hisx
        have d2 : ((z : Int) != 0) = false := by simp; omega
        clear hisx hy0 hz0
        go_wp2_with fail
        refine hG.out.mono ?_
        rintro e w5 ⟨rfl, hb5⟩
        have hb5H := Lib.hid (hbr.out.trans (hb5.mono hbr.out.size))
        have hz5 := hb5H.out.size
        clear hb5 hG c9
        go_wp2
        go_roundw
        case rel => exact ⟨k + 1, by omega, by go_num, Lib.hid (hb5H.out.alloc hz5 _)⟩
        case measure => simp [intOf]; omega
    · obtain rfl : k = hs.length := by omega
      have hXr := Lib.hid (hX3H.out.below hbr.out)
      have hYr := hY3H.out.below hbr.out
      have hBr := Lib.hid (hb3H.out.trans (hbr.out.mono hb3H.out.size))
      have y0 := hYr.at' (i := 0) rfl
      have y1 := hYr.at' (i := 1) rfl
      clear hYr hX3H hY3H hb3H hrd3H hcs3
      have c0 := hXr.out.at' (i := 0) rfl
      have c1 := hXr.out.at' (i := 1) rfl
      have c2 := hXr.out.at' (i := 2) rfl
      have f0 := hXr.out.free 0
      have f1 := hXr.out.free 1
      have f2 := hXr.out.free 2
      go_wp2
      have hB := ((hXr.out.set 0 (.pointer (some ⟨s, 0, none⟩))).set 1 (.func (.func (jnF rd)) #[] #[])).set 2 (.func (.func (ckF rd)) #[] #[])
      have k0 := hB.at' (i := 0) rfl
      have k1 := hB.at' (i := 1) rfl
      have k2 := hB.at' (i := 2) rfl
      refine bodyPost_ret (v := .tuple #[cutV s rd, .int .i64 0]) ?_ rfl ⟨rfl, ((hBr.out.setCell (p := ⟨w.heap.size, 0, none⟩) (Nat.le_refl _) _).setCell (p := ⟨w.heap.size, 1, none⟩) (Nat.le_refl _) _).setCell (p := ⟨w.heap.size, 2, none⟩) (Nat.le_refl _) _⟩
      clear c0 c1 c2 f0 f1 f2 hB
      simp [results, Tryz.f60, go_sem, cut0, cutV, k0, k1, k2]
end
end Go.Proofs.YtijpmjaeanocpaaGreatDoor

set_option linter.unusedVariables false
set_option linter.unusedSimpArgs false
namespace Go.Proofs.YtijpmjaeanocpaaGreatDoor
open Go.RowKit Go.Shelf
section
variable {w w' : World} {s : Nat} {F : Nat → Prop} {R : Nat → Option (List Nat)} {H : List Nat} {P q most last G : Nat}
theorem avTop_lt (h : StoreIs w s F R H P q most last G) {l m r : Nat} (hl : l < 18446744073709551616) (hm : m < 18446744073709551616) (hr : r < 18446744073709551616) : (avTop R l m r).2.1 < 18446744073709551616 ∧ (avTop R l m r).2.2 < 10 := by
  obtain ⟨n, hrd, _⟩ := h.rd
  by_cases hc : m ≠ 0 ∧ isR R l = true ∧ isR R m = true ∧ isR R r = true
  · rw [avTop_yes hc, okW_2, okW_3]
    obtain ⟨e, w', fr, ⟨_, hb, _⟩, _⟩ := avJoin_at (nodeG R m) (hrd.nodeG m) m hm 100 w R l r (Nat.le_refl _) hl hr h []
    exact ⟨hb, (by omega : (0 : Nat) < 10)⟩
  · rw [avTop_no hc]
    exact ⟨Nat.zero_lt_succ _, (by omega : (8 : Nat) < 10)⟩
theorem rbTop_lt (h : StoreIs w s F R H P q most last G) (tn : Bool) {t m low : Nat} (ht : t < 18446744073709551616) (hm : m < 18446744073709551616) (hlow : low < 18446744073709551616) : (rbTop tn R t m low).2 < 18446744073709551616 := by
  obtain ⟨e, w', fr, ⟨_, hb, _⟩, _⟩ := rbJoin_at tn m low hm hlow 200 w R t (Nat.le_refl _) ht h []
  unfold rbTop
  generalize rbJoin tn m low 200 R t = p at *
  simp only
  split
  · exact hb
  · exact hb
theorem rbJ_lt (h : StoreIs w s F R H P q most last G) {l m r : Nat} (hl : l < 18446744073709551616) (hm : m < 18446744073709551616) (hr : r < 18446744073709551616) : (rbJ R l m r).2.1 < 18446744073709551616 ∧ (rbJ R l m r).2.2 < 10 := by
  by_cases hc : m ≠ 0 ∧ isR R l = true ∧ isR R m = true ∧ isR R r = true
  · rw [rbJ_yes hc, okW_2, okW_3]
    refine ⟨?_, (by omega : (0 : Nat) < 10)⟩
    unfold rbAll
    split
    · exact rbTop_lt h false hl hm hr
    · split
      · exact rbTop_lt h true hr hm hl
      · exact hm
  · rw [rbJ_no hc]
    exact ⟨Nat.zero_lt_succ _, (by omega : (8 : Nat) < 10)⟩
theorem joinK_at (h : StoreIs w s F R H P q most last G) (rd : Bool) {l m r : Nat} (hl : l < 18446744073709551616) (hm : m < 18446744073709551616) (hr : r < 18446744073709551616) :
    Calls Tryz.prog (jnF rd) #[.pointer (some ⟨s, 0, none⟩), .int .u64 (l : Nat), .int .u64 (m : Nat), .int .u64 (r : Nat)] w fun e w' => e = .returned (.tuple #[.int .u64 ((joinK rd R l m r).2.1 : Nat), .int .i64 ((joinK rd R l m r).2.2 : Nat)]) ∧ StoreIs w' s F (joinK rd R l m r).1 H P q most last G ∧ Turn w F w' F := by
  cases rd with
  | false => exact avTop_at h l m r hl hm hr
  | true => exact rbTop_at h l m r hl hm hr
theorem joinK_lt (h : StoreIs w s F R H P q most last G) (rd : Bool) {l m r : Nat} (hl : l < 18446744073709551616) (hm : m < 18446744073709551616) (hr : r < 18446744073709551616) : (joinK rd R l m r).2.1 < 18446744073709551616 ∧ (joinK rd R l m r).2.2 < 10 := by
  cases rd with
  | false => exact avTop_lt h hl hm hr
  | true => exact rbJ_lt h hl hm hr
set_option maxHeartbeats 2000000 in
set_option maxRecDepth 100000 in
theorem paJoin_at (h : StoreIs w s F R H P q most last G) (rd : Bool) {l m r : Nat} (hl : l < 18446744073709551616) (hm : m < 18446744073709551616) (hr : r < 18446744073709551616) :
    Calls Tryz.prog 64 #[cutV s rd, .int .u64 (l : Nat), .int .u64 (m : Nat), .int .u64 (r : Nat)] w fun e w' => e = .returned (.int .u64 ((cutJ rd R l m r).2 : Nat)) ∧ (cutJ rd R l m r).2 < 18446744073709551616 ∧ StoreIs w' s F (cutJ rd R l m r).1 H P q most last G ∧ Turn w F w' F := by
  cases rd with
  | false =>
    have hX0 := Box.new w 114 [.pointer (some ⟨s, 0, none⟩), .func (.func 167) #[] #[], .func (.func 168) #[] #[]]
    obtain ⟨W0, hW0⟩ : ∃ W, W = w.alloc (Obj.cells #[.pointer (some ⟨s, 0, none⟩), .func (.func 167) #[] #[], .func (.func 168) #[] #[]] 114) := ⟨_, rfl⟩
    have hb0 : Below w.heap.size w W0 := by rw [hW0]; exact (Below.refl _ w).alloc (Nat.le_refl _) _
    rw [← hW0] at hX0
    have c0 := hX0.at' (i := 0) rfl
    have c1 := hX0.at' (i := 1) rfl
    have hJ : Hid (Calls Tryz.prog 167 #[.pointer (some ⟨s, 0, none⟩), .int .u64 (l : Nat), .int .u64 (m : Nat), .int .u64 (r : Nat)] W0 _) := Lib.hid (joinK_at (h.below hb0) false hl hm hr)
    have hlt := joinK_lt h false hl hm hr
    have hv : cutJ false R l m r = ((joinK false R l m r).1, if (joinK false R l m r).2.2 = 0 then (joinK false R l m r).2.1 else m) := rfl
    have hb0H := Lib.hid hb0
    have hW0H := Lib.hid hW0
    generalize joinK false R l m r = p at *
    obtain ⟨R1, y, er⟩ := p
    simp only at hlt hv hJ
    obtain ⟨hy, her⟩ := hlt
    clear h hX0 hb0 hW0
    show Calls Tryz.prog 64 #[.agg #[.pointer (some ⟨s, 0, none⟩), .func (.func 167) #[] #[], .func (.func 168) #[] #[]], .int .u64 (l : Nat), .int .u64 (m : Nat), .int .u64 (r : Nat)] w _
    by_cases h0 : er = 0
    · rw [if_pos h0] at hv
      have hvH := Lib.hid hv
      have d : ((er : Int) != 0) = false := by simp; omega
      clear hv h0
      go_enter Tryz.func64, Tryz.ntmps64
      go_wp2_with fail
      rw [← hW0H.out]
      go_wp2_with fail
      refine hJ.out.mono ?_
      rintro e w1 ⟨rfl, hS1, hT1⟩
      have hS1H := Lib.hid hS1
      have hT1H := Lib.hid ((Turn.below (F := F) hb0H.out).trans hT1)
      clear hS1 hT1 hJ c0 c1
      go_wp2
      go_ret
      rw [hvH.out]
      exact ⟨rfl, hy, hS1H.out, hT1H.out⟩
    · rw [if_neg h0] at hv
      have hvH := Lib.hid hv
      have d : ((er : Int) != 0) = true := by simp; omega
      clear hv h0
      go_enter Tryz.func64, Tryz.ntmps64
      go_wp2_with fail
      rw [← hW0H.out]
      go_wp2_with fail
      refine hJ.out.mono ?_
      rintro e w1 ⟨rfl, hS1, hT1⟩
      have hS1H := Lib.hid hS1
      have hT1H := Lib.hid ((Turn.below (F := F) hb0H.out).trans hT1)
      clear hS1 hT1 hJ c0 c1
      go_wp2
      go_ret
      rw [hvH.out]
      exact ⟨rfl, hm, hS1H.out, hT1H.out⟩
  | true =>
    have hX0 := Box.new w 114 [.pointer (some ⟨s, 0, none⟩), .func (.func 169) #[] #[], .func (.func 170) #[] #[]]
    obtain ⟨W0, hW0⟩ : ∃ W, W = w.alloc (Obj.cells #[.pointer (some ⟨s, 0, none⟩), .func (.func 169) #[] #[], .func (.func 170) #[] #[]] 114) := ⟨_, rfl⟩
    have hb0 : Below w.heap.size w W0 := by rw [hW0]; exact (Below.refl _ w).alloc (Nat.le_refl _) _
    rw [← hW0] at hX0
    have c0 := hX0.at' (i := 0) rfl
    have c1 := hX0.at' (i := 1) rfl
    have hJ : Hid (Calls Tryz.prog 169 #[.pointer (some ⟨s, 0, none⟩), .int .u64 (l : Nat), .int .u64 (m : Nat), .int .u64 (r : Nat)] W0 _) := Lib.hid (joinK_at (h.below hb0) true hl hm hr)
    have hlt := joinK_lt h true hl hm hr
    have hv : cutJ true R l m r = ((joinK true R l m r).1, if (joinK true R l m r).2.2 = 0 then (joinK true R l m r).2.1 else m) := rfl
    have hb0H := Lib.hid hb0
    have hW0H := Lib.hid hW0
    generalize joinK true R l m r = p at *
    obtain ⟨R1, y, er⟩ := p
    simp only at hlt hv hJ
    obtain ⟨hy, her⟩ := hlt
    clear h hX0 hb0 hW0
    show Calls Tryz.prog 64 #[.agg #[.pointer (some ⟨s, 0, none⟩), .func (.func 169) #[] #[], .func (.func 170) #[] #[]], .int .u64 (l : Nat), .int .u64 (m : Nat), .int .u64 (r : Nat)] w _
    by_cases h0 : er = 0
    · rw [if_pos h0] at hv
      have hvH := Lib.hid hv
      have d : ((er : Int) != 0) = false := by simp; omega
      clear hv h0
      go_enter Tryz.func64, Tryz.ntmps64
      go_wp2_with fail
      rw [← hW0H.out]
      go_wp2_with fail
      refine hJ.out.mono ?_
      rintro e w1 ⟨rfl, hS1, hT1⟩
      have hS1H := Lib.hid hS1
      have hT1H := Lib.hid ((Turn.below (F := F) hb0H.out).trans hT1)
      clear hS1 hT1 hJ c0 c1
      go_wp2
      go_ret
      rw [hvH.out]
      exact ⟨rfl, hy, hS1H.out, hT1H.out⟩
    · rw [if_neg h0] at hv
      have hvH := Lib.hid hv
      have d : ((er : Int) != 0) = true := by simp; omega
      clear hv h0
      go_enter Tryz.func64, Tryz.ntmps64
      go_wp2_with fail
      rw [← hW0H.out]
      go_wp2_with fail
      refine hJ.out.mono ?_
      rintro e w1 ⟨rfl, hS1, hT1⟩
      have hS1H := Lib.hid hS1
      have hT1H := Lib.hid ((Turn.below (F := F) hb0H.out).trans hT1)
      clear hS1 hT1 hJ c0 c1
      go_wp2
      go_ret
      rw [hvH.out]
      exact ⟨rfl, hm, hS1H.out, hT1H.out⟩
end
end Go.Proofs.YtijpmjaeanocpaaGreatDoor

set_option linter.unusedVariables false
set_option linter.unusedSimpArgs false
namespace Go.Proofs.YtijpmjaeanocpaaGreatDoor
open Go.RowKit Go.Shelf
section
variable {w w' : World} {s N : Nat} {R : Nat → Option (List Nat)} {n : Nat}
set_option maxHeartbeats 4000000 in
set_option maxRecDepth 100000 in
theorem paKey_at (h : Rd N w s R n) (hsh : Short R) (rd : Bool) (x : Nat) (hx : x < 18446744073709551616) (nd : Nd) (hnd : nodeG R x = nd) :
    Calls Tryz.prog 120 #[cutV s rd, .int .u64 (x : Nat)] w fun e w' => e = .returned (.tuple #[.string (keyR R nd), .agg #[.int .u64 (nd.key : Nat), .int .u64 (nd.val : Nat), .int .u64 (nd.left : Nat), .int .u64 (nd.right : Nat), .int .u64 (nd.mark : Nat), .int .u64 (nd.size : Nat)]]) ∧ Below w.heap.size w w' := by
  obtain ⟨z, hz⟩ : ∃ z, nodeE R x = z := ⟨_, rfl⟩
  have hok := hnd ▸ h.nodeG x
  have hkey := hok.key
  have hX0 := Box.new w 114 [.pointer (some ⟨s, 0, none⟩), .func (.func (jnF rd)) #[] #[], .func (.func (ckF rd)) #[] #[]]
  obtain ⟨W0, hW0⟩ : ∃ W, W = w.alloc (Obj.cells #[.pointer (some ⟨s, 0, none⟩), .func (.func (jnF rd)) #[] #[], .func (.func (ckF rd)) #[] #[]] 114) := ⟨_, rfl⟩
  have hb0 : Below w.heap.size w W0 := by rw [hW0]; exact (Below.refl _ w).alloc (Nat.le_refl _) _
  rw [← hW0] at hX0
  have hz0 : w.heap.size < W0.heap.size := hX0.lt
  have hsz : W0.heap.size = w.heap.size + 1 := by rw [hW0]; simp
  obtain ⟨b1, hb1e⟩ : ∃ b, b = w.heap.size + 1 := ⟨_, rfl⟩
  obtain ⟨W1, hW1⟩ : ∃ W, W = W0.alloc (Obj.cells #[.int .u64 0, .int .u64 0, .int .u64 0, .int .u64 0, .int .u64 0, .int .u64 0] 118) := ⟨_, rfl⟩
  have hY1 : Box W1 b1 118 [.int .u64 0, .int .u64 0, .int .u64 0, .int .u64 0, .int .u64 0, .int .u64 0] := by rw [hW1, hb1e, ← hsz]; exact Box.new W0 118 [.int .u64 0, .int .u64 0, .int .u64 0, .int .u64 0, .int .u64 0, .int .u64 0]
  have hb1 : Below w.heap.size w W1 := by rw [hW1]; exact hb0.alloc (by omega) _
  have hX1 : Box W1 w.heap.size 114 [.pointer (some ⟨s, 0, none⟩), .func (.func (jnF rd)) #[] #[], .func (.func (ckF rd)) #[] #[]] := by rw [hW1]; exact hX0.alloc _
  have hGt := Lib.hid (nget_lit (h.below hb1) x hx nd hnd z hz)
  have hBg := Lib.hid (fun W (hb : Below w.heap.size w W) => by have := bget_at (h.below hb) hsh nd.key hkey; unfold blobV at this; exact this)
  have hv : Hid (keyR R nd = (blobR R nd.key).getD ⟨#[]⟩) := Lib.hid rfl
  have c0 := hX1.at' (i := 0) rfl
  have hX1H := Lib.hid hX1
  have hY1H := Lib.hid hY1
  have hb1H := Lib.hid hb1
  have hW0H := Lib.hid hW0
  have hW1H := Lib.hid hW1
  have hb1eH := Lib.hid hb1e
  have hbw : w.heap.size ≤ b1 := by omega
  generalize (blobR R nd.key).getD ⟨#[]⟩ = kk at *
  generalize blobE R nd.key = ke at *
  clear h hz hX0 hb0 hW0 hsz hb1e hW1 hY1 hb1 hX1 hok hnd hz0
  unfold cutV
  go_enter Tryz.func120, Tryz.ntmps120
  go_wp2_with fail
  rw [← hW0H.out, ← hW1H.out, ← hb1eH.out]
  go_wp2_with fail
  refine hGt.out.mono ?_
  rintro e w2 ⟨rfl, hb⟩
  have hb2H := Lib.hid (hb1H.out.trans (hb.mono hb1H.out.size))
  have hz2 := hb2H.out.size
  have hX2H := Lib.hid (hX1H.out.below hb)
  have hY2H := Lib.hid (hY1H.out.below hb)
  clear hb hGt c0
  have hb3 := hb2H.out.alloc hz2 (Obj.cells #[.int .u64 (nd.key : Nat), .int .u64 (nd.val : Nat), .int .u64 (nd.left : Nat), .int .u64 (nd.right : Nat), .int .u64 (nd.mark : Nat), .int .u64 (nd.size : Nat)] 118)
  obtain ⟨W3, hW3⟩ : ∃ W, W = w2.alloc (Obj.cells #[.int .u64 (nd.key : Nat), .int .u64 (nd.val : Nat), .int .u64 (nd.left : Nat), .int .u64 (nd.right : Nat), .int .u64 (nd.mark : Nat), .int .u64 (nd.size : Nat)] 118) := ⟨_, rfl⟩
  obtain ⟨b3, hb3e⟩ : ∃ b, b = w2.heap.size := ⟨_, rfl⟩
  have hZ3H : Hid (Box W3 b3 118 [.int .u64 (nd.key : Nat), .int .u64 (nd.val : Nat), .int .u64 (nd.left : Nat), .int .u64 (nd.right : Nat), .int .u64 (nd.mark : Nat), .int .u64 (nd.size : Nat)]) := Lib.hid (by rw [hW3, hb3e]; exact Box.new w2 118 [.int .u64 (nd.key : Nat), .int .u64 (nd.val : Nat), .int .u64 (nd.left : Nat), .int .u64 (nd.right : Nat), .int .u64 (nd.mark : Nat), .int .u64 (nd.size : Nat)])
  have hY3H : Hid (Box W3 b1 118 [.int .u64 0, .int .u64 0, .int .u64 0, .int .u64 0, .int .u64 0, .int .u64 0]) := Lib.hid (by rw [hW3]; exact hY2H.out.alloc _)
  have hX3H : Hid (Box W3 w.heap.size 114 [.pointer (some ⟨s, 0, none⟩), .func (.func (jnF rd)) #[] #[], .func (.func (ckF rd)) #[] #[]]) := Lib.hid (by rw [hW3]; exact hX2H.out.alloc _)
  rw [← hW3] at hb3
  have hb3H := Lib.hid hb3
  have hlt := hY2H.out.lt
  have hne : b1 ≠ b3 := by omega
  have c0 := hX2H.out.at' (i := 0) rfl
  have hW3H := Lib.hid hW3
  have hb3eH := Lib.hid hb3e
  have hlw := hX2H.out.lt
  clear hb3 hW3 hb3e
  go_wp2_with fail
  rw [← hW3H.out]
  refine (hBg.out _ hb3H.out).mono ?_
  rintro e w4 ⟨rfl, hb⟩
  rw [← hb3eH.out]
  have hb4H := Lib.hid (hb3H.out.trans (hb.mono hb3H.out.size))
  have hY4 := hY3H.out.below hb
  have hZ4 := hZ3H.out.below hb
  have hY4H := Lib.hid hY4
  have y0 := hY4.at' (i := 0) rfl
  have y1 := hY4.at' (i := 1) rfl
  have y2 := hY4.at' (i := 2) rfl
  have y3 := hY4.at' (i := 3) rfl
  have y4 := hY4.at' (i := 4) rfl
  have y5 := hY4.at' (i := 5) rfl
  have g0 := hY4.free 0
  have g1 := hY4.free 1
  have g2 := hY4.free 2
  have g3 := hY4.free 3
  have g4 := hY4.free 4
  have g5 := hY4.free 5
  have z0 := hZ4.at' (i := 0) rfl
  have z1 := hZ4.at' (i := 1) rfl
  have z2 := hZ4.at' (i := 2) rfl
  have z3 := hZ4.at' (i := 3) rfl
  have z4 := hZ4.at' (i := 4) rfl
  have z5 := hZ4.at' (i := 5) rfl
  have hly := hY4.lt
  have hlz := hZ4.lt
  clear hb hBg c0 hY4 hZ4 hX3H hY3H hZ3H hX2H hY2H hlt hlw hz2
  go_wp2_with fail
  go_region
  all_goals (try go_wp2)
  obtain ⟨W5, hW5⟩ : ∃ W, W = ((((((w4.setCell ⟨b1, 0, none⟩ (.int .u64 (nd.key : Nat))).setCell ⟨b1, 1, none⟩ (.int .u64 (nd.val : Nat))).setCell ⟨b1, 2, none⟩ (.int .u64 (nd.left : Nat))).setCell ⟨b1, 3, none⟩ (.int .u64 (nd.right : Nat))).setCell ⟨b1, 4, none⟩ (.int .u64 (nd.mark : Nat))).setCell ⟨b1, 5, none⟩ (.int .u64 (nd.size : Nat))) := ⟨_, rfl⟩
  have hB : Box W5 b1 118 [.int .u64 (nd.key : Nat), .int .u64 (nd.val : Nat), .int .u64 (nd.left : Nat), .int .u64 (nd.right : Nat), .int .u64 (nd.mark : Nat), .int .u64 (nd.size : Nat)] := by
    rw [hW5]
    exact hY4H.out.six (.int .u64 (nd.key : Nat)) (.int .u64 (nd.val : Nat)) (.int .u64 (nd.left : Nat)) (.int .u64 (nd.right : Nat)) (.int .u64 (nd.mark : Nat)) (.int .u64 (nd.size : Nat))
  have hb5 : Below w.heap.size w W5 := by
    rw [hW5]
    exact below_six hb4H.out hbw _ _ _ _ _ _
  rw [← hW5]
  have hB' : Box W5.drew b1 118 [.int .u64 (nd.key : Nat), .int .u64 (nd.val : Nat), .int .u64 (nd.left : Nat), .int .u64 (nd.right : Nat), .int .u64 (nd.mark : Nat), .int .u64 (nd.size : Nat)] := hB.below (below_drawn W5)
  have hb6 : Below w.heap.size w W5.drew := hb5.trans ((below_drawn W5).mono hb5.size)
  have k0 := hB'.at' (i := 0) rfl
  have k1 := hB'.at' (i := 1) rfl
  have k2 := hB'.at' (i := 2) rfl
  have k3 := hB'.at' (i := 3) rfl
  have k4 := hB'.at' (i := 4) rfl
  have k5 := hB'.at' (i := 5) rfl
  generalize W5.drew = W6 at *
  refine bodyPost_ret (v := .tuple #[.string kk, .agg #[.int .u64 (nd.key : Nat), .int .u64 (nd.val : Nat), .int .u64 (nd.left : Nat), .int .u64 (nd.right : Nat), .int .u64 (nd.mark : Nat), .int .u64 (nd.size : Nat)]]) ?_ rfl ⟨by rw [hv.out], hb6⟩
  clear hB hB' hb5 hW5 y0 y1 y2 y3 y4 y5 z0 z1 z2 z3 z4 z5 g0 g1 g2 g3 g4 g5
  simp [results, Tryz.f120, go_sem, k0, k1, k2, k3, k4, k5]
end
end Go.Proofs.YtijpmjaeanocpaaGreatDoor

set_option linter.unusedVariables false
set_option linter.unusedSimpArgs false
namespace Go.Proofs.YtijpmjaeanocpaaGreatDoor
open Go.RowKit Go.Shelf
section
variable {s : Nat} {F : Nat → Prop} {H : List Nat} {P q most last G : Nat}
set_option maxHeartbeats 8000000 in
set_option maxRecDepth 100000 in
theorem paSplit_at (rd : Bool) (key : ByteArray) : ∀ (f : Nat) (w : World) (R : Nat → Option (List Nat)) (x : Nat), f ≤ 200 → x < 18446744073709551616 → Short R → StoreIs w s F R H P q most last G →
    Calls Tryz.prog 63 #[cutV s rd, .int .u64 (x : Nat), .string key, .int .i64 ((200 - f : Nat) : Int)] w fun e w' => e = .returned (.tuple #[.int .u64 ((cutS rd key f R x).2.1 : Nat), .int .u64 ((cutS rd key f R x).2.2.1 : Nat), .int .u64 ((cutS rd key f R x).2.2.2 : Nat)]) ∧ ((cutS rd key f R x).2.1 < 18446744073709551616 ∧ (cutS rd key f R x).2.2.1 < 18446744073709551616 ∧ (cutS rd key f R x).2.2.2 < 18446744073709551616) ∧ StoreIs w' s F (cutS rd key f R x).1 H P q most last G ∧ Turn w F w' F
  | 0, w, R, x, hf, hx, hsh, h => by
    have hX0 := Box.new w 114 [.pointer (some ⟨s, 0, none⟩), .func (.func (jnF rd)) #[] #[], .func (.func (ckF rd)) #[] #[]]
    obtain ⟨W0, hW0⟩ : ∃ W, W = w.alloc (Obj.cells #[.pointer (some ⟨s, 0, none⟩), .func (.func (jnF rd)) #[] #[], .func (.func (ckF rd)) #[] #[]] 114) := ⟨_, rfl⟩
    have hb0 : Below w.heap.size w W0 := by rw [hW0]; exact (Below.refl _ w).alloc (Nat.le_refl _) _
    rw [← hW0] at hX0
    have hFb0 : ¬ F w.heap.size := fun hf => by have := h.lt hf; omega
    have hFl := Lib.hid (fun b (hf : F b) => h.lt hf)
    have hS0 := h.below hb0
    obtain ⟨n0, hr0, _⟩ := hS0.rd
    have hX0H := Lib.hid hX0
    have hT0H : Hid (Turn w F W0 F) := Lib.hid (Turn.below hb0)
    have hB0H := Lib.hid hb0
    have hW0H := Lib.hid hW0
    have hS0H := Lib.hid hS0
    have hr0H := Lib.hid hr0
    clear hX0 hb0 hW0 hS0
    clear h hr0
    have hvH : Hid (cutS rd key 0 R x = (R, 0, 0, 0)) := Lib.hid rfl
    show Calls Tryz.prog 63 #[.agg #[.pointer (some ⟨s, 0, none⟩), .func (.func (jnF rd)) #[] #[], .func (.func (ckF rd)) #[] #[]], .int .u64 (x : Nat), .string key, .int .i64 200] w _
    by_cases hx0 : x = 0
    · have d : ((x : Int) == 0) = true := by simp; omega
      clear hx0
      go_enter Tryz.func63, Tryz.ntmps63
      go_wp2_with fail
      rw [← hW0H.out]
      refine bodyPost_ret (v := .tuple #[.int .u64 0, .int .u64 0, .int .u64 0]) (by simp [results, Tryz.f63, go_sem]) rfl ?_
      rw [hvH.out]
      exact ⟨rfl, ⟨Nat.zero_lt_succ _, Nat.zero_lt_succ _, Nat.zero_lt_succ _⟩, hS0H.out, hT0H.out⟩
    · have d : ((x : Int) == 0) = false := by simp; omega
      clear hx0
      go_enter Tryz.func63, Tryz.ntmps63
      go_wp2_with fail
      rw [← hW0H.out]
      refine bodyPost_ret (v := .tuple #[.int .u64 0, .int .u64 0, .int .u64 0]) (by simp [results, Tryz.f63, go_sem]) rfl ?_
      rw [hvH.out]
      exact ⟨rfl, ⟨Nat.zero_lt_succ _, Nat.zero_lt_succ _, Nat.zero_lt_succ _⟩, hS0H.out, hT0H.out⟩
  | f + 1, w, R, x, hf, hx, hsh, h => by
    have hX0 := Box.new w 114 [.pointer (some ⟨s, 0, none⟩), .func (.func (jnF rd)) #[] #[], .func (.func (ckF rd)) #[] #[]]
    obtain ⟨W0, hW0⟩ : ∃ W, W = w.alloc (Obj.cells #[.pointer (some ⟨s, 0, none⟩), .func (.func (jnF rd)) #[] #[], .func (.func (ckF rd)) #[] #[]] 114) := ⟨_, rfl⟩
    have hb0 : Below w.heap.size w W0 := by rw [hW0]; exact (Below.refl _ w).alloc (Nat.le_refl _) _
    rw [← hW0] at hX0
    have hFb0 : ¬ F w.heap.size := fun hf => by have := h.lt hf; omega
    have hFl := Lib.hid (fun b (hf : F b) => h.lt hf)
    have hS0 := h.below hb0
    obtain ⟨n0, hr0, _⟩ := hS0.rd
    have hX0H := Lib.hid hX0
    have hT0H : Hid (Turn w F W0 F) := Lib.hid (Turn.below hb0)
    have hB0H := Lib.hid hb0
    have hW0H := Lib.hid hW0
    have hS0H := Lib.hid hS0
    have hr0H := Lib.hid hr0
    clear hX0 hb0 hW0 hS0
    have hdn : Hid (((200 - f : Nat) : Int) = ((200 - (f + 1) : Nat) : Int) + 1) := Lib.hid (by omega)
    have hd0 : (((200 - (f + 1) : Nat) : Int) == 200) = false := by simp; omega
    obtain ⟨d, hd⟩ : ∃ d, d = 200 - (f + 1) := ⟨_, rfl⟩
    rw [← hd] at hdn hd0 ⊢
    have hdl : d < 200 := by omega
    clear hd
    have ih := fun w R x => paSplit_at rd key f w R x
    obtain ⟨nd, hnd⟩ : ∃ nd, nodeG R x = nd := ⟨_, rfl⟩
    have hok := hnd ▸ hr0.nodeG x
    have hl := hok.left
    have hr := hok.right
    clear h hr0 hok
    unfold cutV
    by_cases hx0 : x = 0
    · have hvH : Hid (cutS rd key (f + 1) R x = (R, 0, 0, 0)) := Lib.hid (by rw [cutS, if_pos hx0])
      have dx : ((x : Int) == 0) = true := by simp; omega
      clear hx0 ih hnd hdn
      go_enter Tryz.func63, Tryz.ntmps63
      go_wp2_with fail
      rw [← hW0H.out]
      refine bodyPost_ret (v := .tuple #[.int .u64 0, .int .u64 0, .int .u64 0]) (by simp [results, Tryz.f63, go_sem]) rfl ?_
      rw [hvH.out]
      exact ⟨rfl, ⟨Nat.zero_lt_succ _, Nat.zero_lt_succ _, Nat.zero_lt_succ _⟩, hS0H.out, hT0H.out⟩
    · have dx : ((x : Int) == 0) = false := by simp; omega
      have hv : cutS rd key (f + 1) R x = if Tx.cmp key (keyR R nd) < 0 then
      ((cutJ rd (cutS rd key f R nd.left).1 (cutS rd key f R nd.left).2.2.2 x nd.right).1, (cutS rd key f R nd.left).2.1, (cutS rd key f R nd.left).2.2.1, (cutJ rd (cutS rd key f R nd.left).1 (cutS rd key f R nd.left).2.2.2 x nd.right).2)
      else if 0 < Tx.cmp key (keyR R nd) then
      ((cutJ rd (cutS rd key f R nd.right).1 nd.left x (cutS rd key f R nd.right).2.1).1, (cutJ rd (cutS rd key f R nd.right).1 nd.left x (cutS rd key f R nd.right).2.1).2, (cutS rd key f R nd.right).2.2.1, (cutS rd key f R nd.right).2.2.2)
      else (R, nd.left, x, nd.right) := by rw [cutS, if_neg hx0, hnd]
      clear hx0
      go_enter Tryz.func63, Tryz.ntmps63
      go_wp2_with fail
      rw [← hW0H.out]
      have hK := Lib.hid (paKey_at hr0H.out hsh rd x hx nd hnd)
      have c0 := hX0H.out.at' (i := 0) rfl
      have c1 := hX0H.out.at' (i := 1) rfl
      have c2 := hX0H.out.at' (i := 2) rfl
      go_wp2_with fail
      refine hK.out.mono ?_
      rintro e W1 ⟨rfl, hb⟩
      have hB1H := Lib.hid (hB0H.out.trans (hb.mono hB0H.out.size))
      have hX1H := Lib.hid (hX0H.out.below hb)
      have hS1H := Lib.hid (hS0H.out.below hb)
      have hz1 := hB1H.out.size
      clear hb hK c0 c1 c2 hr0H hX0H hS0H hB0H hT0H
      obtain ⟨kk, hkk⟩ : ∃ kk, keyR R nd = kk := ⟨_, rfl⟩
      have hcmp := fun W => Tx.cmp_call key kk W
      rw [hkk] at hv
      obtain ⟨c, hc⟩ : ∃ c, Tx.cmp key kk = c := ⟨_, rfl⟩
      rw [hc] at hv
      simp only [hc] at hcmp
      have hcmpH := Lib.hid hcmp
      rw [hkk]
      clear hkk hc hcmp hnd
      obtain ⟨W2, hW2⟩ : ∃ W, W = W1.alloc (Obj.cells #[.int .u64 (nd.key : Nat), .int .u64 (nd.val : Nat), .int .u64 (nd.left : Nat), .int .u64 (nd.right : Nat), .int .u64 (nd.mark : Nat), .int .u64 (nd.size : Nat)] 118) := ⟨_, rfl⟩
      obtain ⟨b2, hb2e⟩ : ∃ b, b = W1.heap.size := ⟨_, rfl⟩
      have hY2H : Hid (Box W2 b2 118 [.int .u64 (nd.key : Nat), .int .u64 (nd.val : Nat), .int .u64 (nd.left : Nat), .int .u64 (nd.right : Nat), .int .u64 (nd.mark : Nat), .int .u64 (nd.size : Nat)]) := Lib.hid (by rw [hW2, hb2e]; exact Box.new W1 118 [.int .u64 (nd.key : Nat), .int .u64 (nd.val : Nat), .int .u64 (nd.left : Nat), .int .u64 (nd.right : Nat), .int .u64 (nd.mark : Nat), .int .u64 (nd.size : Nat)])
      have hX2H : Hid (Box W2 w.heap.size 114 [.pointer (some ⟨s, 0, none⟩), .func (.func (jnF rd)) #[] #[], .func (.func (ckF rd)) #[] #[]]) := Lib.hid (by rw [hW2]; exact hX1H.out.alloc _)
      have hB2H : Hid (Below w.heap.size w W2) := Lib.hid (by rw [hW2]; exact hB1H.out.alloc hz1 _)
      have hS2H : Hid (StoreIs W2 s F R H P q most last G) := Lib.hid (by rw [hW2]; exact hS1H.out.below ((Below.refl _ _).alloc (Nat.le_refl _) _))
      have hFb2 : ¬ F b2 := fun hf => by have := hFl.out b2 hf; omega
      have hW2H := Lib.hid hW2
      have hb2eH := Lib.hid hb2e
      clear hW2 hb2e hX1H hS1H hB1H
      go_wp2_with fail
      rw [← hW2H.out]
      refine (hcmpH.out _).mono ?_
      rintro e W2' ⟨rfl, rfl⟩
      rw [← hb2eH.out]
      clear hcmpH
      by_cases q1 : c < 0
      · have e1 : decide (c < 0) = true := decide_eq_true q1
        rw [if_pos q1] at hv
        clear q1
        have hih := ih W2 R nd.left (by omega) hl hsh hS2H.out
        rw [hdn.out] at hih
        unfold cutV at hih
        have hk := cutS_keeps rd key f R nd.left
        generalize cutS rd key f R nd.left = p at *
        obtain ⟨Ra, pl, pm, pr⟩ := p
        simp only at hih hv hk
        have hihH := Lib.hid hih
        have hvH := Lib.hid hv
        clear hih hv hdn ih hsh hk
        have c0 := hX2H.out.at' (i := 0) rfl
        have c1 := hX2H.out.at' (i := 1) rfl
        have c2 := hX2H.out.at' (i := 2) rfl
        have y2 := hY2H.out.at' (i := 2) rfl
        have y3 := hY2H.out.at' (i := 3) rfl
        go_wp2_with fail
        refine hihH.out.mono ?_
        rintro e W3 ⟨rfl, ⟨hpl, hpm, hpr⟩, hS, hT⟩
        have hX3H := Lib.hid (hX2H.out.turn hT hFb0)
        have hY3H := Lib.hid (hY2H.out.turn hT hFb2)
        have hT3H := Lib.hid ((Turn.below (F := F) hB2H.out).trans hT)
        have hJ := paJoin_at hS rd hpr hx hr
        unfold cutV at hJ
        have hJH := Lib.hid hJ
        clear hS hT hihH hJ hX2H hY2H hS2H hB2H
        clear c0 c1 c2 y2 y3
        generalize cutJ rd Ra pr x nd.right = pj at *
        obtain ⟨Rb, y⟩ := pj
        simp only at hJH hvH
        have c0 := hX3H.out.at' (i := 0) rfl
        have c1 := hX3H.out.at' (i := 1) rfl
        have c2 := hX3H.out.at' (i := 2) rfl
        have y2 := hY3H.out.at' (i := 2) rfl
        have y3 := hY3H.out.at' (i := 3) rfl
        go_wp2_with fail
        refine hJH.out.mono ?_
        rintro e W4 ⟨rfl, hy, hS, hT⟩
        have hS4H := Lib.hid hS
        have hT4H := Lib.hid (hT3H.out.trans hT)
        clear hS hT hJH hX3H hY3H hT3H
        clear c0 c1 c2 y2 y3
        go_wp2
        refine bodyPost_ret (v := .tuple #[.int .u64 (pl : Nat), .int .u64 (pm : Nat), .int .u64 (y : Nat)]) (by simp [results, Tryz.f63, go_sem]) rfl ?_
        rw [hvH.out]
        exact ⟨rfl, ⟨hpl, hpm, hy⟩, hS4H.out, hT4H.out⟩
      · have e1 : decide (c < 0) = false := decide_eq_false q1
        rw [if_neg q1] at hv
        by_cases q2 : 0 < c
        · have e2 : decide (0 < c) = true := decide_eq_true q2
          rw [if_pos q2] at hv
          clear q1 q2
          have hih := ih W2 R nd.right (by omega) hr hsh hS2H.out
          rw [hdn.out] at hih
          unfold cutV at hih
          have hk := cutS_keeps rd key f R nd.right
          generalize cutS rd key f R nd.right = p at *
          obtain ⟨Ra, pl, pm, pr⟩ := p
          simp only at hih hv hk
          have hihH := Lib.hid hih
          have hvH := Lib.hid hv
          clear hih hv hdn ih hsh hk
          have c0 := hX2H.out.at' (i := 0) rfl
          have c1 := hX2H.out.at' (i := 1) rfl
          have c2 := hX2H.out.at' (i := 2) rfl
          have y2 := hY2H.out.at' (i := 2) rfl
          have y3 := hY2H.out.at' (i := 3) rfl
          go_wp2_with fail
          refine hihH.out.mono ?_
          rintro e W3 ⟨rfl, ⟨hpl, hpm, hpr⟩, hS, hT⟩
          have hX3H := Lib.hid (hX2H.out.turn hT hFb0)
          have hY3H := Lib.hid (hY2H.out.turn hT hFb2)
          have hT3H := Lib.hid ((Turn.below (F := F) hB2H.out).trans hT)
          have hJ := paJoin_at hS rd hl hx hpl
          unfold cutV at hJ
          have hJH := Lib.hid hJ
          clear hS hT hihH hJ hX2H hY2H hS2H hB2H
          clear c0 c1 c2 y2 y3
          generalize cutJ rd Ra nd.left x pl = pj at *
          obtain ⟨Rb, y⟩ := pj
          simp only at hJH hvH
          have c0 := hX3H.out.at' (i := 0) rfl
          have c1 := hX3H.out.at' (i := 1) rfl
          have c2 := hX3H.out.at' (i := 2) rfl
          have y2 := hY3H.out.at' (i := 2) rfl
          have y3 := hY3H.out.at' (i := 3) rfl
          go_wp2_with fail
          refine hJH.out.mono ?_
          rintro e W4 ⟨rfl, hy, hS, hT⟩
          have hS4H := Lib.hid hS
          have hT4H := Lib.hid (hT3H.out.trans hT)
          clear hS hT hJH hX3H hY3H hT3H
          clear c0 c1 c2 y2 y3
          go_wp2
          refine bodyPost_ret (v := .tuple #[.int .u64 (y : Nat), .int .u64 (pm : Nat), .int .u64 (pr : Nat)]) (by simp [results, Tryz.f63, go_sem]) rfl ?_
          rw [hvH.out]
          exact ⟨rfl, ⟨hy, hpm, hpr⟩, hS4H.out, hT4H.out⟩
        · have e2 : decide (0 < c) = false := decide_eq_false q2
          rw [if_neg q2] at hv
          have hvH := Lib.hid hv
          clear q1 q2 hv hdn ih
          have c0 := hX2H.out.at' (i := 0) rfl
          have c1 := hX2H.out.at' (i := 1) rfl
          have c2 := hX2H.out.at' (i := 2) rfl
          have y2 := hY2H.out.at' (i := 2) rfl
          have y3 := hY2H.out.at' (i := 3) rfl
          go_wp2_with fail
          go_quiet (fail)
          go_wp2
          refine bodyPost_ret (v := .tuple #[.int .u64 (nd.left : Nat), .int .u64 (x : Nat), .int .u64 (nd.right : Nat)]) (by simp [results, Tryz.f63, go_sem]) rfl ?_
          rw [hvH.out]
          exact ⟨rfl, ⟨hl, hx, hr⟩, hS2H.out.below (Tx.drewN_below _ _), (Turn.below (F := F) hB2H.out).trans (Turn.below (Tx.drewN_below _ _))⟩
end
end Go.Proofs.YtijpmjaeanocpaaGreatDoor

set_option linter.unusedVariables false
set_option linter.unusedSimpArgs false
namespace Go.Proofs.YtijpmjaeanocpaaGreatDoor
open Go.RowKit Go.Shelf
section
variable {s : Nat} {F : Nat → Prop} {H : List Nat} {P q most last G : Nat}
set_option maxHeartbeats 8000000 in
set_option maxRecDepth 100000 in
theorem paLast_at (rd : Bool) : ∀ (f : Nat) (w : World) (R : Nat → Option (List Nat)) (x : Nat), f ≤ 200 → x < 18446744073709551616 → Short R → StoreIs w s F R H P q most last G →
    Calls Tryz.prog 123 #[cutV s rd, .int .u64 (x : Nat), .int .i64 ((200 - f : Nat) : Int)] w fun e w' => e = .returned (.tuple #[.int .u64 ((cutL rd f R x).2.1 : Nat), .int .u64 ((cutL rd f R x).2.2 : Nat)]) ∧ ((cutL rd f R x).2.1 < 18446744073709551616 ∧ (cutL rd f R x).2.2 < 18446744073709551616) ∧ StoreIs w' s F (cutL rd f R x).1 H P q most last G ∧ Turn w F w' F
  | 0, w, R, x, hf, hx, hsh, h => by
    have hX0 := Box.new w 114 [.pointer (some ⟨s, 0, none⟩), .func (.func (jnF rd)) #[] #[], .func (.func (ckF rd)) #[] #[]]
    obtain ⟨W0, hW0⟩ : ∃ W, W = w.alloc (Obj.cells #[.pointer (some ⟨s, 0, none⟩), .func (.func (jnF rd)) #[] #[], .func (.func (ckF rd)) #[] #[]] 114) := ⟨_, rfl⟩
    have hb0 : Below w.heap.size w W0 := by rw [hW0]; exact (Below.refl _ w).alloc (Nat.le_refl _) _
    rw [← hW0] at hX0
    have hFb0 : ¬ F w.heap.size := fun hf => by have := h.lt hf; omega
    have hFl := Lib.hid (fun b (hf : F b) => h.lt hf)
    have hS0 := h.below hb0
    obtain ⟨n0, hr0, _⟩ := hS0.rd
    have hX0H := Lib.hid hX0
    have hT0H : Hid (Turn w F W0 F) := Lib.hid (Turn.below hb0)
    have hB0H := Lib.hid hb0
    have hW0H := Lib.hid hW0
    have hS0H := Lib.hid hS0
    have hr0H := Lib.hid hr0
    clear hX0 hb0 hW0 hS0
    obtain ⟨nd, hnd⟩ : ∃ nd, nodeG R x = nd := ⟨_, rfl⟩
    have hok := hnd ▸ hr0.nodeG x
    have hl := hok.left
    have hr := hok.right
    clear h hr0 hok
    have hvH : Hid (cutL rd 0 R x = (R, nd.left, x)) := Lib.hid (by rw [cutL, hnd])
    show Calls Tryz.prog 123 #[.agg #[.pointer (some ⟨s, 0, none⟩), .func (.func (jnF rd)) #[] #[], .func (.func (ckF rd)) #[] #[]], .int .u64 (x : Nat), .int .i64 200] w _
    by_cases hz : nd.right = 0
    · have dz : ((nd.right : Int) == 0) = true := by simp; omega
      clear hz
      go_enter Tryz.func123, Tryz.ntmps123
      go_wp2_with fail
      rw [← hW0H.out]
      have hK := Lib.hid (paKey_at hr0H.out hsh rd x hx nd hnd)
      have c0 := hX0H.out.at' (i := 0) rfl
      have c1 := hX0H.out.at' (i := 1) rfl
      have c2 := hX0H.out.at' (i := 2) rfl
      go_wp2_with fail
      refine hK.out.mono ?_
      rintro e W1 ⟨rfl, hb⟩
      have hB1H := Lib.hid (hB0H.out.trans (hb.mono hB0H.out.size))
      have hX1H := Lib.hid (hX0H.out.below hb)
      have hS1H := Lib.hid (hS0H.out.below hb)
      have hz1 := hB1H.out.size
      clear hb hK c0 c1 c2 hr0H hX0H hS0H hB0H hT0H
      clear hnd
      go_wp2
      refine bodyPost_ret (v := .tuple #[.int .u64 (nd.left : Nat), .int .u64 (x : Nat)]) (by simp [results, Tryz.f123, go_sem]) rfl ?_
      rw [hvH.out]
      exact ⟨rfl, ⟨hl, hx⟩, hS1H.out.below ((Below.refl _ _).alloc (Nat.le_refl _) _), Turn.below (hB1H.out.alloc hz1 _)⟩
    · have dz : ((nd.right : Int) == 0) = false := by simp; omega
      clear hz
      go_enter Tryz.func123, Tryz.ntmps123
      go_wp2_with fail
      rw [← hW0H.out]
      have hK := Lib.hid (paKey_at hr0H.out hsh rd x hx nd hnd)
      have c0 := hX0H.out.at' (i := 0) rfl
      have c1 := hX0H.out.at' (i := 1) rfl
      have c2 := hX0H.out.at' (i := 2) rfl
      go_wp2_with fail
      refine hK.out.mono ?_
      rintro e W1 ⟨rfl, hb⟩
      have hB1H := Lib.hid (hB0H.out.trans (hb.mono hB0H.out.size))
      have hX1H := Lib.hid (hX0H.out.below hb)
      have hS1H := Lib.hid (hS0H.out.below hb)
      have hz1 := hB1H.out.size
      clear hb hK c0 c1 c2 hr0H hX0H hS0H hB0H hT0H
      clear hnd
      go_wp2
      refine bodyPost_ret (v := .tuple #[.int .u64 (nd.left : Nat), .int .u64 (x : Nat)]) (by simp [results, Tryz.f123, go_sem]) rfl ?_
      rw [hvH.out]
      exact ⟨rfl, ⟨hl, hx⟩, hS1H.out.below ((Below.refl _ _).alloc (Nat.le_refl _) _), Turn.below (hB1H.out.alloc hz1 _)⟩
  | f + 1, w, R, x, hf, hx, hsh, h => by
    have hX0 := Box.new w 114 [.pointer (some ⟨s, 0, none⟩), .func (.func (jnF rd)) #[] #[], .func (.func (ckF rd)) #[] #[]]
    obtain ⟨W0, hW0⟩ : ∃ W, W = w.alloc (Obj.cells #[.pointer (some ⟨s, 0, none⟩), .func (.func (jnF rd)) #[] #[], .func (.func (ckF rd)) #[] #[]] 114) := ⟨_, rfl⟩
    have hb0 : Below w.heap.size w W0 := by rw [hW0]; exact (Below.refl _ w).alloc (Nat.le_refl _) _
    rw [← hW0] at hX0
    have hFb0 : ¬ F w.heap.size := fun hf => by have := h.lt hf; omega
    have hFl := Lib.hid (fun b (hf : F b) => h.lt hf)
    have hS0 := h.below hb0
    obtain ⟨n0, hr0, _⟩ := hS0.rd
    have hX0H := Lib.hid hX0
    have hT0H : Hid (Turn w F W0 F) := Lib.hid (Turn.below hb0)
    have hB0H := Lib.hid hb0
    have hW0H := Lib.hid hW0
    have hS0H := Lib.hid hS0
    have hr0H := Lib.hid hr0
    clear hX0 hb0 hW0 hS0
    obtain ⟨nd, hnd⟩ : ∃ nd, nodeG R x = nd := ⟨_, rfl⟩
    have hok := hnd ▸ hr0.nodeG x
    have hl := hok.left
    have hr := hok.right
    clear h hr0 hok
    have hdn : Hid (((200 - f : Nat) : Int) = ((200 - (f + 1) : Nat) : Int) + 1) := Lib.hid (by omega)
    have hd0 : (((200 - (f + 1) : Nat) : Int) == 200) = false := by simp; omega
    obtain ⟨d, hd⟩ : ∃ d, d = 200 - (f + 1) := ⟨_, rfl⟩
    rw [← hd] at hdn hd0 ⊢
    have hdl : d < 200 := by omega
    clear hd
    have ih := fun w R x => paLast_at rd f w R x
    unfold cutV
    by_cases hz : nd.right = 0
    · have dz : ((nd.right : Int) == 0) = true := by simp; omega
      have hvH : Hid (cutL rd (f + 1) R x = (R, nd.left, x)) := Lib.hid (by rw [cutL, hnd, if_pos hz])
      clear hz ih
      go_enter Tryz.func123, Tryz.ntmps123
      go_wp2_with fail
      rw [← hW0H.out]
      have hK := Lib.hid (paKey_at hr0H.out hsh rd x hx nd hnd)
      have c0 := hX0H.out.at' (i := 0) rfl
      have c1 := hX0H.out.at' (i := 1) rfl
      have c2 := hX0H.out.at' (i := 2) rfl
      go_wp2_with fail
      refine hK.out.mono ?_
      rintro e W1 ⟨rfl, hb⟩
      have hB1H := Lib.hid (hB0H.out.trans (hb.mono hB0H.out.size))
      have hX1H := Lib.hid (hX0H.out.below hb)
      have hS1H := Lib.hid (hS0H.out.below hb)
      have hz1 := hB1H.out.size
      clear hb hK c0 c1 c2 hr0H hX0H hS0H hB0H hT0H
      clear hnd
      go_wp2
      refine bodyPost_ret (v := .tuple #[.int .u64 (nd.left : Nat), .int .u64 (x : Nat)]) (by simp [results, Tryz.f123, go_sem]) rfl ?_
      rw [hvH.out]
      exact ⟨rfl, ⟨hl, hx⟩, hS1H.out.below ((Below.refl _ _).alloc (Nat.le_refl _) _), Turn.below (hB1H.out.alloc hz1 _)⟩
    · have dz : ((nd.right : Int) == 0) = false := by simp; omega
      have hv : cutL rd (f + 1) R x = ((cutJ rd (cutL rd f R nd.right).1 nd.left x (cutL rd f R nd.right).2.1).1, (cutJ rd (cutL rd f R nd.right).1 nd.left x (cutL rd f R nd.right).2.1).2, (cutL rd f R nd.right).2.2) := by rw [cutL, hnd, if_neg hz]
      clear hz
      go_enter Tryz.func123, Tryz.ntmps123
      go_wp2_with fail
      rw [← hW0H.out]
      have hK := Lib.hid (paKey_at hr0H.out hsh rd x hx nd hnd)
      have c0 := hX0H.out.at' (i := 0) rfl
      have c1 := hX0H.out.at' (i := 1) rfl
      have c2 := hX0H.out.at' (i := 2) rfl
      go_wp2_with fail
      refine hK.out.mono ?_
      rintro e W1 ⟨rfl, hb⟩
      have hB1H := Lib.hid (hB0H.out.trans (hb.mono hB0H.out.size))
      have hX1H := Lib.hid (hX0H.out.below hb)
      have hS1H := Lib.hid (hS0H.out.below hb)
      have hz1 := hB1H.out.size
      clear hb hK c0 c1 c2 hr0H hX0H hS0H hB0H hT0H
      clear hnd
      generalize keyR R nd = kk at *
      have c0 := hX1H.out.at' (i := 0) rfl
      have c1 := hX1H.out.at' (i := 1) rfl
      have c2 := hX1H.out.at' (i := 2) rfl
      have hlw := hX1H.out.lt
      go_wp2_with fail
      clear c0 c1 c2 hlw
      obtain ⟨W2, hW2⟩ : ∃ W, W = W1.alloc (Obj.cells #[.int .u64 (nd.key : Nat), .int .u64 (nd.val : Nat), .int .u64 (nd.left : Nat), .int .u64 (nd.right : Nat), .int .u64 (nd.mark : Nat), .int .u64 (nd.size : Nat)] 118) := ⟨_, rfl⟩
      obtain ⟨b2, hb2e⟩ : ∃ b, b = W1.heap.size := ⟨_, rfl⟩
      have hY2H : Hid (Box W2 b2 118 [.int .u64 (nd.key : Nat), .int .u64 (nd.val : Nat), .int .u64 (nd.left : Nat), .int .u64 (nd.right : Nat), .int .u64 (nd.mark : Nat), .int .u64 (nd.size : Nat)]) := Lib.hid (by rw [hW2, hb2e]; exact Box.new W1 118 [.int .u64 (nd.key : Nat), .int .u64 (nd.val : Nat), .int .u64 (nd.left : Nat), .int .u64 (nd.right : Nat), .int .u64 (nd.mark : Nat), .int .u64 (nd.size : Nat)])
      have hX2H : Hid (Box W2 w.heap.size 114 [.pointer (some ⟨s, 0, none⟩), .func (.func (jnF rd)) #[] #[], .func (.func (ckF rd)) #[] #[]]) := Lib.hid (by rw [hW2]; exact hX1H.out.alloc _)
      have hB2H : Hid (Below w.heap.size w W2) := Lib.hid (by rw [hW2]; exact hB1H.out.alloc hz1 _)
      have hS2H : Hid (StoreIs W2 s F R H P q most last G) := Lib.hid (by rw [hW2]; exact hS1H.out.below ((Below.refl _ _).alloc (Nat.le_refl _) _))
      have hFb2 : ¬ F b2 := fun hf => by have := hFl.out b2 hf; omega
      have hW2H := Lib.hid hW2
      have hb2eH := Lib.hid hb2e
      clear hW2 hb2e hX1H hS1H hB1H
      have hih := ih W2 R nd.right (by omega) hr hsh hS2H.out
      rw [hdn.out] at hih
      unfold cutV at hih
      generalize cutL rd f R nd.right = p at *
      obtain ⟨Ra, pl, pm⟩ := p
      simp only at hih hv
      have hihH := Lib.hid hih
      have hvH := Lib.hid hv
      clear hih hv hdn ih hsh
      have c0 := hX2H.out.at' (i := 0) rfl
      have c1 := hX2H.out.at' (i := 1) rfl
      have c2 := hX2H.out.at' (i := 2) rfl
      have y2 := hY2H.out.at' (i := 2) rfl
      have y3 := hY2H.out.at' (i := 3) rfl
      rw [← hW2H.out]
      refine hihH.out.mono ?_
      rintro e W3 ⟨rfl, ⟨hpl, hpm⟩, hS, hT⟩
      rw [← hb2eH.out]
      have hX3H := Lib.hid (hX2H.out.turn hT hFb0)
      have hY3H := Lib.hid (hY2H.out.turn hT hFb2)
      have hT3H := Lib.hid ((Turn.below (F := F) hB2H.out).trans hT)
      have hJ := paJoin_at hS rd hl hx hpl
      unfold cutV at hJ
      have hJH := Lib.hid hJ
      clear hS hT hihH hJ hX2H hY2H hS2H hB2H
      clear c0 c1 c2 y2 y3
      generalize cutJ rd Ra nd.left x pl = pj at *
      obtain ⟨Rb, y⟩ := pj
      simp only at hJH hvH
      have c0 := hX3H.out.at' (i := 0) rfl
      have c1 := hX3H.out.at' (i := 1) rfl
      have c2 := hX3H.out.at' (i := 2) rfl
      have y2 := hY3H.out.at' (i := 2) rfl
      have y3 := hY3H.out.at' (i := 3) rfl
      go_wp2_with fail
      refine hJH.out.mono ?_
      rintro e W4 ⟨rfl, hy, hS, hT⟩
      have hS4H := Lib.hid hS
      have hT4H := Lib.hid (hT3H.out.trans hT)
      clear hS hT hJH hX3H hY3H hT3H
      clear c0 c1 c2 y2 y3
      go_wp2
      refine bodyPost_ret (v := .tuple #[.int .u64 (y : Nat), .int .u64 (pm : Nat)]) (by simp [results, Tryz.f123, go_sem]) rfl ?_
      rw [hvH.out]
      exact ⟨rfl, ⟨hy, hpm⟩, hS4H.out, hT4H.out⟩
set_option maxHeartbeats 4000000 in
set_option maxRecDepth 100000 in
theorem paConcat_at {w : World} {R : Nat → Option (List Nat)} (h : StoreIs w s F R H P q most last G) (hsh : Short R) (rd : Bool) {l r : Nat} (hl : l < 18446744073709551616) (hr : r < 18446744073709551616) :
    Calls Tryz.prog 67 #[cutV s rd, .int .u64 (l : Nat), .int .u64 (r : Nat)] w fun e w' => e = .returned (.int .u64 ((cutC rd R l r).2 : Nat)) ∧ (cutC rd R l r).2 < 18446744073709551616 ∧ StoreIs w' s F (cutC rd R l r).1 H P q most last G ∧ Turn w F w' F := by
  have hX0 := Box.new w 114 [.pointer (some ⟨s, 0, none⟩), .func (.func (jnF rd)) #[] #[], .func (.func (ckF rd)) #[] #[]]
  obtain ⟨W0, hW0⟩ : ∃ W, W = w.alloc (Obj.cells #[.pointer (some ⟨s, 0, none⟩), .func (.func (jnF rd)) #[] #[], .func (.func (ckF rd)) #[] #[]] 114) := ⟨_, rfl⟩
  have hb0 : Below w.heap.size w W0 := by rw [hW0]; exact (Below.refl _ w).alloc (Nat.le_refl _) _
  rw [← hW0] at hX0
  have hFb0 : ¬ F w.heap.size := fun hf => by have := h.lt hf; omega
  have hFl := Lib.hid (fun b (hf : F b) => h.lt hf)
  have hS0 := h.below hb0
  obtain ⟨n0, hr0, _⟩ := hS0.rd
  have hX0H := Lib.hid hX0
  have hT0H : Hid (Turn w F W0 F) := Lib.hid (Turn.below hb0)
  have hB0H := Lib.hid hb0
  have hW0H := Lib.hid hW0
  have hS0H := Lib.hid hS0
  have hr0H := Lib.hid hr0
  clear hX0 hb0 hW0 hS0
  clear h hr0 hr0H
  by_cases hl0 : l = 0
  · have dl : ((l : Int) == 0) = true := by simp; omega
    have hvH : Hid (cutC rd R l r = (R, r)) := Lib.hid (by unfold cutC; rw [if_pos hl0])
    clear hl0
    unfold cutV
    go_enter Tryz.func67, Tryz.ntmps67
    go_wp2
    rw [← hW0H.out]
    go_ret
    rw [hvH.out]
    exact ⟨rfl, hr, hS0H.out, hT0H.out⟩
  · have dl : ((l : Int) == 0) = false := by simp; omega
    have hv : cutC rd R l r = cutJ rd (cutL rd 200 R l).1 (cutL rd 200 R l).2.1 (cutL rd 200 R l).2.2 r := by unfold cutC; rw [if_neg hl0]
    have hLa : Calls Tryz.prog 123 #[cutV s rd, .int .u64 (l : Nat), .int .i64 0] W0 _ := paLast_at rd 200 W0 R l (Nat.le_refl _) hl hsh hS0H.out
    generalize cutL rd 200 R l = p at *
    obtain ⟨Ra, pl, pm⟩ := p
    simp only at hLa hv
    unfold cutV at hLa
    have hLaH := Lib.hid hLa
    have hvH := Lib.hid hv
    clear hl0 hLa hv
    unfold cutV
    go_enter Tryz.func67, Tryz.ntmps67
    have c0 := hX0H.out.at' (i := 0) rfl
    have c1 := hX0H.out.at' (i := 1) rfl
    have c2 := hX0H.out.at' (i := 2) rfl
    go_wp2_with fail
    rw [← hW0H.out]
    go_wp2_with fail
    refine hLaH.out.mono ?_
    rintro e W1 ⟨rfl, ⟨hpl, hpm⟩, hS, hT⟩
    have hX1H := Lib.hid (hX0H.out.turn hT hFb0)
    have hT1H := Lib.hid (hT0H.out.trans hT)
    have hJ := paJoin_at hS rd hpl hpm hr
    unfold cutV at hJ
    have hJH := Lib.hid hJ
    clear hS hT hLaH hJ hX0H hS0H hT0H hB0H c0 c1 c2
    generalize cutJ rd Ra pl pm r = pj at *
    obtain ⟨Rb, y⟩ := pj
    simp only at hJH hvH
    have c0 := hX1H.out.at' (i := 0) rfl
    have c1 := hX1H.out.at' (i := 1) rfl
    have c2 := hX1H.out.at' (i := 2) rfl
    go_wp2_with fail
    refine hJH.out.mono ?_
    rintro e W2 ⟨rfl, hy, hS, hT⟩
    have hS2H := Lib.hid hS
    have hT2H := Lib.hid (hT1H.out.trans hT)
    clear hS hT hJH hX1H hT1H c0 c1 c2
    go_wp2
    go_ret
    rw [hvH.out]
    exact ⟨rfl, hy, hS2H.out, hT2H.out⟩
end
end Go.Proofs.YtijpmjaeanocpaaGreatDoor

set_option linter.unusedVariables false
set_option linter.unusedSimpArgs false
namespace Go.Proofs.YtijpmjaeanocpaaGreatDoor
open Go.RowKit Go.Shelf
def insP (rd : Bool) (key : ByteArray) (R : Nat → Option (List Nat)) (x m : Nat) : (Nat → Option (List Nat)) × Nat × Nat :=
  ((cutJ rd (cutS rd key 200 R x).1 (cutS rd key 200 R x).2.1 m (cutS rd key 200 R x).2.2.2).1, (cutJ rd (cutS rd key 200 R x).1 (cutS rd key 200 R x).2.1 m (cutS rd key 200 R x).2.2.2).2, (cutS rd key 200 R x).2.2.1)
def delP (rd : Bool) (key : ByteArray) (R : Nat → Option (List Nat)) (x : Nat) : (Nat → Option (List Nat)) × Nat × Nat :=
  ((cutC rd (cutS rd key 200 R x).1 (cutS rd key 200 R x).2.1 (cutS rd key 200 R x).2.2.2).1, (cutC rd (cutS rd key 200 R x).1 (cutS rd key 200 R x).2.1 (cutS rd key 200 R x).2.2.2).2, (cutS rd key 200 R x).2.2.1)
theorem insP_keeps (rd : Bool) (key : ByteArray) (R : Nat → Option (List Nat)) (x m : Nat) : KeepsN R (insP rd key R x m).1 := (cutS_keeps rd key 200 R x).trans (cutJ_keeps rd _ _ _ _)
theorem delP_keeps (rd : Bool) (key : ByteArray) (R : Nat → Option (List Nat)) (x : Nat) : KeepsN R (delP rd key R x).1 := (cutS_keeps rd key 200 R x).trans (cutC_keeps rd _ _ _)
section
variable {w : World} {s : Nat} {F : Nat → Prop} {R : Nat → Option (List Nat)} {H : List Nat} {P q most last G : Nat}
set_option maxHeartbeats 4000000 in
set_option maxRecDepth 100000 in
theorem paSplitT_at (h : StoreIs w s F R H P q most last G) (hsh : Short R) (rd : Bool) {x : Nat} (hx : x < 18446744073709551616) (key : ByteArray) (hk : key.size ≤ 1000) (hi0 : isR R x = true) :
    Calls Tryz.prog 59 #[.pointer (some ⟨s, 0, none⟩), .int .i64 (kindZ rd), .int .u64 (x : Nat), .string key] w fun e w' => e = .returned (.tuple #[.int .u64 ((cutS rd key 200 R x).2.1 : Nat), .int .u64 ((cutS rd key 200 R x).2.2.1 : Nat), .int .u64 ((cutS rd key 200 R x).2.2.2 : Nat), .int .i64 0]) ∧ StoreIs w' s F (cutS rd key 200 R x).1 H P q most last G ∧ Turn w F w' F := by
  obtain ⟨n, hrd, _⟩ := h.rd
  obtain ⟨W0, hW0⟩ : ∃ W, W = w.alloc (Obj.cells #[.int .u64 (x : Nat)] 30) := ⟨_, rfl⟩
  have hX0 : Box W0 w.heap.size 30 [.int .u64 (x : Nat)] := by rw [hW0]; exact Box.new w 30 [.int .u64 (x : Nat)]
  have hb0 : Below w.heap.size w W0 := by rw [hW0]; exact (Below.refl _ w).alloc (Nat.le_refl _) _
  have hAt : HsAt W0 (some ⟨w.heap.size, 0, none⟩) [x] := fun i hi => ⟨w.heap.size, rfl, by
    have := hX0.at' (i := i) (v := .int .u64 (([x] : List Nat)[i] : Nat)) (by
      obtain rfl : i = 0 := by simp at hi; omega
      rfl)
    exact this⟩
  have hAsk : Calls Tryz.prog 60 #[.pointer (some ⟨s, 0, none⟩), .int .i64 (kindZ rd), .string key, .slice (some ⟨w.heap.size, 0, none⟩) 1 1] W0 _ := paAsk_ok (hrd.below hb0) rd key hk (some ⟨w.heap.size, 0, none⟩) 1 [x] (by simp) hAt (by simp; omega) (by simp; exact hi0)
  have hFl := Lib.hid (fun b (hf : F b) => h.lt hf)
  have hHs := Lib.hid h
  have hAskH := Lib.hid hAsk
  have hb0H := Lib.hid hb0
  have hW0H := Lib.hid hW0
  unfold cutV at hAskH
  clear hX0 hAt hAsk hb0 hW0 hi0
  have hSp : ∀ W, Below w.heap.size w W → Calls Tryz.prog 63 #[cutV s rd, .int .u64 (x : Nat), .string key, .int .i64 0] W _ := fun W hb => paSplit_at rd key 200 W R x (Nat.le_refl _) hx hsh (hHs.out.below hb)
  unfold cutV at hSp
  have hkeep := cutS_keeps rd key 200 R x
  generalize cutS rd key 200 R x = p at *
  obtain ⟨Ra, pl, pm, pr⟩ := p
  dsimp only at hSp hkeep ⊢
  have hSpH := Lib.hid hSp
  have hsha := hkeep.short hsh
  clear hSp hkeep
  go_enter Tryz.func59, Tryz.ntmps59
  go_wp2_with fail
  rw [← hW0H.out]
  refine hAskH.out.mono ?_
  rintro e W1 ⟨rfl, hb⟩
  have hB1H := Lib.hid (hb0H.out.trans (hb.mono hb0H.out.size))
  have hz1 := hB1H.out.size
  clear hb hAskH hW0H hb0H
  go_wp2_with fail
  obtain ⟨W2, hW2⟩ : ∃ W, W = W1.alloc (Obj.cells #[.pointer (some ⟨s, 0, none⟩), .func (.func (jnF rd)) #[] #[], .func (.func (ckF rd)) #[] #[]] 114) := ⟨_, rfl⟩
  obtain ⟨b2, hb2e⟩ : ∃ b, b = W1.heap.size := ⟨_, rfl⟩
  have hX2H : Hid (Box W2 b2 114 [.pointer (some ⟨s, 0, none⟩), .func (.func (jnF rd)) #[] #[], .func (.func (ckF rd)) #[] #[]]) := Lib.hid (by rw [hW2, hb2e]; exact Box.new W1 114 [.pointer (some ⟨s, 0, none⟩), .func (.func (jnF rd)) #[] #[], .func (.func (ckF rd)) #[] #[]])
  have hB2H : Hid (Below w.heap.size w W2) := Lib.hid (by rw [hW2]; exact hB1H.out.alloc hz1 _)
  have hFb2 : ¬ F b2 := fun hf => by have := hFl.out b2 hf; omega
  rw [← hW2, ← hb2e]
  clear hW2 hb2e hB1H hz1
  have c0 := hX2H.out.at' (i := 0) rfl
  have c1 := hX2H.out.at' (i := 1) rfl
  have c2 := hX2H.out.at' (i := 2) rfl
  refine (hSpH.out _ hB2H.out).mono ?_
  rintro e W3 ⟨rfl, ⟨hpl, hpm, hpr⟩, hS, hT⟩
  have hX3H := Lib.hid (hX2H.out.turn hT hFb2)
  have hT3H := Lib.hid ((Turn.below (F := F) hB2H.out).trans hT)
  clear hSpH c0 c1 c2 hX2H hB2H
  have hS3H := Lib.hid hS
  clear hS hT
  go_wp2
  refine bodyPost_ret (v := .tuple #[.int .u64 (pl : Nat), .int .u64 (pm : Nat), .int .u64 (pr : Nat), .int .i64 0]) (by simp [results, Tryz.f59, go_sem]) rfl ?_
  exact ⟨rfl, hS3H.out, hT3H.out⟩
set_option maxHeartbeats 4000000 in
set_option maxRecDepth 100000 in
theorem paConcatT_at (h : StoreIs w s F R H P q most last G) (hsh : Short R) (rd : Bool) {x y : Nat} (hx : x < 18446744073709551616) (hy : y < 18446744073709551616) (hi0 : isR R x = true) (hi1 : isR R y = true) :
    Calls Tryz.prog 69 #[.pointer (some ⟨s, 0, none⟩), .int .i64 (kindZ rd), .int .u64 (x : Nat), .int .u64 (y : Nat)] w fun e w' => e = .returned (.tuple #[.int .u64 ((cutC rd R x y).2 : Nat), .int .i64 0]) ∧ StoreIs w' s F (cutC rd R x y).1 H P q most last G ∧ Turn w F w' F := by
  obtain ⟨n, hrd, _⟩ := h.rd
  obtain ⟨W0, hW0⟩ : ∃ W, W = w.alloc (Obj.cells #[.int .u64 (x : Nat), .int .u64 (y : Nat)] 30) := ⟨_, rfl⟩
  have hX0 : Box W0 w.heap.size 30 [.int .u64 (x : Nat), .int .u64 (y : Nat)] := by rw [hW0]; exact Box.new w 30 [.int .u64 (x : Nat), .int .u64 (y : Nat)]
  have hb0 : Below w.heap.size w W0 := by rw [hW0]; exact (Below.refl _ w).alloc (Nat.le_refl _) _
  have hAt : HsAt W0 (some ⟨w.heap.size, 0, none⟩) [x, y] := fun i hi => ⟨w.heap.size, rfl, by
    have := hX0.at' (i := i) (v := .int .u64 (([x, y] : List Nat)[i] : Nat)) (by
      have hc : i = 0 ∨ i = 1 := by simp at hi; omega
      rcases hc with rfl | rfl <;> rfl)
    exact this⟩
  have hAsk : Calls Tryz.prog 60 #[.pointer (some ⟨s, 0, none⟩), .int .i64 (kindZ rd), .string ⟨#[]⟩, .slice (some ⟨w.heap.size, 0, none⟩) 2 2] W0 _ := paAsk_ok (hrd.below hb0) rd ⟨#[]⟩ (by decide) (some ⟨w.heap.size, 0, none⟩) 2 [x, y] (by simp) hAt (by simp; omega) (by simp; exact ⟨hi0, hi1⟩)
  have hFl := Lib.hid (fun b (hf : F b) => h.lt hf)
  have hHs := Lib.hid h
  have hAskH := Lib.hid hAsk
  have hb0H := Lib.hid hb0
  have hW0H := Lib.hid hW0
  unfold cutV at hAskH
  clear hX0 hAt hAsk hb0 hW0 hi0 hi1
  have hC := fun W (hb : Below w.heap.size w W) => paConcat_at (hHs.out.below hb) hsh rd hx hy
  unfold cutV at hC
  generalize cutC rd R x y = p at *
  obtain ⟨Ra, z⟩ := p
  dsimp only at hC ⊢
  have hCH := Lib.hid hC
  clear hC
  go_enter Tryz.func69, Tryz.ntmps69
  go_wp2_with fail
  rw [← hW0H.out]
  refine hAskH.out.mono ?_
  rintro e W1 ⟨rfl, hb⟩
  have hB1H := Lib.hid (hb0H.out.trans (hb.mono hb0H.out.size))
  have hz1 := hB1H.out.size
  clear hb hAskH hW0H hb0H
  go_wp2_with fail
  obtain ⟨W2, hW2⟩ : ∃ W, W = W1.alloc (Obj.cells #[.pointer (some ⟨s, 0, none⟩), .func (.func (jnF rd)) #[] #[], .func (.func (ckF rd)) #[] #[]] 114) := ⟨_, rfl⟩
  obtain ⟨b2, hb2e⟩ : ∃ b, b = W1.heap.size := ⟨_, rfl⟩
  have hX2H : Hid (Box W2 b2 114 [.pointer (some ⟨s, 0, none⟩), .func (.func (jnF rd)) #[] #[], .func (.func (ckF rd)) #[] #[]]) := Lib.hid (by rw [hW2, hb2e]; exact Box.new W1 114 [.pointer (some ⟨s, 0, none⟩), .func (.func (jnF rd)) #[] #[], .func (.func (ckF rd)) #[] #[]])
  have hB2H : Hid (Below w.heap.size w W2) := Lib.hid (by rw [hW2]; exact hB1H.out.alloc hz1 _)
  have hFb2 : ¬ F b2 := fun hf => by have := hFl.out b2 hf; omega
  rw [← hW2, ← hb2e]
  clear hW2 hb2e hB1H hz1
  refine (hCH.out _ hB2H.out).mono ?_
  rintro e W3 ⟨rfl, hz, hS, hT⟩
  have hS3H := Lib.hid hS
  have hT3H := Lib.hid ((Turn.below (F := F) hB2H.out).trans hT)
  clear hS hT hCH
  go_wp2
  refine bodyPost_ret (v := .tuple #[.int .u64 (z : Nat), .int .i64 0]) (by simp [results, Tryz.f69, go_sem]) rfl ?_
  exact ⟨rfl, hS3H.out, hT3H.out⟩
set_option maxHeartbeats 4000000 in
set_option maxRecDepth 100000 in
theorem paDeleteT_at (h : StoreIs w s F R H P q most last G) (hsh : Short R) (rd : Bool) {x : Nat} (hx : x < 18446744073709551616) (key : ByteArray) (hk : key.size ≤ 1000) (hi0 : isR R x = true) :
    Calls Tryz.prog 20 #[.pointer (some ⟨s, 0, none⟩), .int .i64 (kindZ rd), .int .u64 (x : Nat), .string key] w fun e w' => e = .returned (.tuple #[.int .u64 ((delP rd key R x).2.1 : Nat), .int .u64 ((delP rd key R x).2.2 : Nat), .int .i64 0]) ∧ StoreIs w' s F (delP rd key R x).1 H P q most last G ∧ Turn w F w' F := by
  obtain ⟨n, hrd, _⟩ := h.rd
  obtain ⟨W0, hW0⟩ : ∃ W, W = w.alloc (Obj.cells #[.int .u64 (x : Nat)] 30) := ⟨_, rfl⟩
  have hX0 : Box W0 w.heap.size 30 [.int .u64 (x : Nat)] := by rw [hW0]; exact Box.new w 30 [.int .u64 (x : Nat)]
  have hb0 : Below w.heap.size w W0 := by rw [hW0]; exact (Below.refl _ w).alloc (Nat.le_refl _) _
  have hAt : HsAt W0 (some ⟨w.heap.size, 0, none⟩) [x] := fun i hi => ⟨w.heap.size, rfl, by
    have := hX0.at' (i := i) (v := .int .u64 (([x] : List Nat)[i] : Nat)) (by
      obtain rfl : i = 0 := by simp at hi; omega
      rfl)
    exact this⟩
  have hAsk : Calls Tryz.prog 60 #[.pointer (some ⟨s, 0, none⟩), .int .i64 (kindZ rd), .string key, .slice (some ⟨w.heap.size, 0, none⟩) 1 1] W0 _ := paAsk_ok (hrd.below hb0) rd key hk (some ⟨w.heap.size, 0, none⟩) 1 [x] (by simp) hAt (by simp; omega) (by simp; exact hi0)
  have hFl := Lib.hid (fun b (hf : F b) => h.lt hf)
  have hHs := Lib.hid h
  have hAskH := Lib.hid hAsk
  have hb0H := Lib.hid hb0
  have hW0H := Lib.hid hW0
  unfold cutV at hAskH
  clear hX0 hAt hAsk hb0 hW0 hi0
  unfold delP
  have hSp : ∀ W, Below w.heap.size w W → Calls Tryz.prog 63 #[cutV s rd, .int .u64 (x : Nat), .string key, .int .i64 0] W _ := fun W hb => paSplit_at rd key 200 W R x (Nat.le_refl _) hx hsh (hHs.out.below hb)
  unfold cutV at hSp
  have hkeep := cutS_keeps rd key 200 R x
  generalize cutS rd key 200 R x = p at *
  obtain ⟨Ra, pl, pm, pr⟩ := p
  dsimp only at hSp hkeep ⊢
  have hSpH := Lib.hid hSp
  have hsha := hkeep.short hsh
  clear hSp hkeep
  have hC := fun W (hS : StoreIs W s F Ra H P q most last G) (h1 : pl < 18446744073709551616) (h2 : pr < 18446744073709551616) => paConcat_at hS hsha rd h1 h2
  unfold cutV at hC
  generalize cutC rd Ra pl pr = pc at *
  obtain ⟨Rb, z⟩ := pc
  dsimp only at hC ⊢
  have hCH := Lib.hid hC
  clear hC
  go_enter Tryz.func20, Tryz.ntmps20
  go_wp2_with fail
  rw [← hW0H.out]
  refine hAskH.out.mono ?_
  rintro e W1 ⟨rfl, hb⟩
  have hB1H := Lib.hid (hb0H.out.trans (hb.mono hb0H.out.size))
  have hz1 := hB1H.out.size
  clear hb hAskH hW0H hb0H
  go_wp2_with fail
  obtain ⟨W2, hW2⟩ : ∃ W, W = W1.alloc (Obj.cells #[.pointer (some ⟨s, 0, none⟩), .func (.func (jnF rd)) #[] #[], .func (.func (ckF rd)) #[] #[]] 114) := ⟨_, rfl⟩
  obtain ⟨b2, hb2e⟩ : ∃ b, b = W1.heap.size := ⟨_, rfl⟩
  have hX2H : Hid (Box W2 b2 114 [.pointer (some ⟨s, 0, none⟩), .func (.func (jnF rd)) #[] #[], .func (.func (ckF rd)) #[] #[]]) := Lib.hid (by rw [hW2, hb2e]; exact Box.new W1 114 [.pointer (some ⟨s, 0, none⟩), .func (.func (jnF rd)) #[] #[], .func (.func (ckF rd)) #[] #[]])
  have hB2H : Hid (Below w.heap.size w W2) := Lib.hid (by rw [hW2]; exact hB1H.out.alloc hz1 _)
  have hFb2 : ¬ F b2 := fun hf => by have := hFl.out b2 hf; omega
  rw [← hW2, ← hb2e]
  clear hW2 hb2e hB1H hz1
  have c0 := hX2H.out.at' (i := 0) rfl
  have c1 := hX2H.out.at' (i := 1) rfl
  have c2 := hX2H.out.at' (i := 2) rfl
  refine (hSpH.out _ hB2H.out).mono ?_
  rintro e W3 ⟨rfl, ⟨hpl, hpm, hpr⟩, hS, hT⟩
  have hX3H := Lib.hid (hX2H.out.turn hT hFb2)
  have hT3H := Lib.hid ((Turn.below (F := F) hB2H.out).trans hT)
  clear hSpH c0 c1 c2 hX2H hB2H
  have hC2 := Lib.hid (hCH.out _ hS hpl hpr)
  clear hS hT hCH
  have c0 := hX3H.out.at' (i := 0) rfl
  have c1 := hX3H.out.at' (i := 1) rfl
  have c2 := hX3H.out.at' (i := 2) rfl
  go_wp2_with fail
  refine hC2.out.mono ?_
  rintro e W4 ⟨rfl, hz, hS, hT⟩
  have hS4H := Lib.hid hS
  have hT4H := Lib.hid (hT3H.out.trans hT)
  clear hS hT hC2 c0 c1 c2 hX3H
  go_wp2
  refine bodyPost_ret (v := .tuple #[.int .u64 (z : Nat), .int .u64 (pm : Nat), .int .i64 0]) (by simp [results, Tryz.f20, go_sem]) rfl ?_
  exact ⟨rfl, hS4H.out, hT4H.out⟩
set_option maxHeartbeats 4000000 in
set_option maxRecDepth 100000 in
theorem paInsertT_at (h : StoreIs w s F R H P q most last G) (hsh : Short R) (rd : Bool) {x m : Nat} (hx : x < 18446744073709551616) (hm : m < 18446744073709551616) (hm0 : m ≠ 0) (hi0 : isR R x = true) (hi1 : isR R m = true) (key : ByteArray) (hkey : blobR R (nodeG R m).key = some key) (hkE : blobE R (nodeG R m).key = 0) :
    Calls Tryz.prog 17 #[.pointer (some ⟨s, 0, none⟩), .int .i64 (kindZ rd), .int .u64 (x : Nat), .int .u64 (m : Nat)] w fun e w' => e = .returned (.tuple #[.int .u64 ((insP rd key R x m).2.1 : Nat), .int .u64 ((insP rd key R x m).2.2 : Nat), .int .i64 0]) ∧ StoreIs w' s F (insP rd key R x m).1 H P q most last G ∧ Turn w F w' F := by
  obtain ⟨n, hrd, _⟩ := h.rd
  obtain ⟨W0, hW0⟩ : ∃ W, W = w.alloc (Obj.cells #[.int .u64 (x : Nat), .int .u64 (m : Nat)] 30) := ⟨_, rfl⟩
  have hX0 : Box W0 w.heap.size 30 [.int .u64 (x : Nat), .int .u64 (m : Nat)] := by rw [hW0]; exact Box.new w 30 [.int .u64 (x : Nat), .int .u64 (m : Nat)]
  have hb0 : Below w.heap.size w W0 := by rw [hW0]; exact (Below.refl _ w).alloc (Nat.le_refl _) _
  have hAt : HsAt W0 (some ⟨w.heap.size, 0, none⟩) [x, m] := fun i hi => ⟨w.heap.size, rfl, by
    have := hX0.at' (i := i) (v := .int .u64 (([x, m] : List Nat)[i] : Nat)) (by
      have hc : i = 0 ∨ i = 1 := by simp at hi; omega
      rcases hc with rfl | rfl <;> rfl)
    exact this⟩
  have hAsk : Calls Tryz.prog 60 #[.pointer (some ⟨s, 0, none⟩), .int .i64 (kindZ rd), .string ⟨#[]⟩, .slice (some ⟨w.heap.size, 0, none⟩) 2 2] W0 _ := paAsk_ok (hrd.below hb0) rd ⟨#[]⟩ (by decide) (some ⟨w.heap.size, 0, none⟩) 2 [x, m] (by simp) hAt (by simp; omega) (by simp; exact ⟨hi0, hi1⟩)
  have hFl := Lib.hid (fun b (hf : F b) => h.lt hf)
  have hHs := Lib.hid h
  have hAskH := Lib.hid hAsk
  have hb0H := Lib.hid hb0
  have hW0H := Lib.hid hW0
  unfold cutV at hAskH
  clear hX0 hAt hAsk hb0 hW0 hi0 hi1
  unfold insP
  have dm : ((m : Int) == 0) = false := by simp; omega
  obtain ⟨nd, hnd⟩ : ∃ nd, nodeG R m = nd := ⟨_, rfl⟩
  obtain ⟨z, hz⟩ : ∃ z, nodeE R m = z := ⟨_, rfl⟩
  rw [hnd] at hkey hkE
  have hok := hnd ▸ hrd.nodeG m
  have hGt := Lib.hid (fun W (hb : Below w.heap.size w W) => nget_lit (hrd.below hb) m hm nd hnd z hz)
  have hBg := Lib.hid (fun W (hb : Below w.heap.size w W) => by have := bget_at (hrd.below hb) hsh nd.key hok.key; unfold blobV at this; rw [hkey, hkE, Option.getD_some] at this; exact this)
  clear hnd hz hkey hkE hok hrd
  have hSp : ∀ W, Below w.heap.size w W → Calls Tryz.prog 63 #[cutV s rd, .int .u64 (x : Nat), .string key, .int .i64 0] W _ := fun W hb => paSplit_at rd key 200 W R x (Nat.le_refl _) hx hsh (hHs.out.below hb)
  unfold cutV at hSp
  have hkeep := cutS_keeps rd key 200 R x
  generalize cutS rd key 200 R x = p at *
  obtain ⟨Ra, pl, pm, pr⟩ := p
  dsimp only at hSp hkeep ⊢
  have hSpH := Lib.hid hSp
  have hsha := hkeep.short hsh
  clear hSp hkeep
  have hC := fun W (hS : StoreIs W s F Ra H P q most last G) (h1 : pl < 18446744073709551616) (h2 : pr < 18446744073709551616) => paJoin_at hS rd h1 hm h2
  unfold cutV at hC
  generalize cutJ rd Ra pl m pr = pc at *
  obtain ⟨Rb, y⟩ := pc
  dsimp only at hC ⊢
  have hCH := Lib.hid hC
  clear hC
  go_enter Tryz.func17, Tryz.ntmps17
  go_wp2_with fail
  rw [← hW0H.out]
  refine hAskH.out.mono ?_
  rintro e W1 ⟨rfl, hb⟩
  have hB1H := Lib.hid (hb0H.out.trans (hb.mono hb0H.out.size))
  have hz1 := hB1H.out.size
  clear hb hAskH hW0H hb0H
  go_wp2_with fail
  obtain ⟨W2, hW2⟩ : ∃ W, W = W1.alloc (Obj.cells #[.pointer (some ⟨s, 0, none⟩), .func (.func (jnF rd)) #[] #[], .func (.func (ckF rd)) #[] #[]] 114) := ⟨_, rfl⟩
  obtain ⟨b2, hb2e⟩ : ∃ b, b = W1.heap.size := ⟨_, rfl⟩
  have hX2H : Hid (Box W2 b2 114 [.pointer (some ⟨s, 0, none⟩), .func (.func (jnF rd)) #[] #[], .func (.func (ckF rd)) #[] #[]]) := Lib.hid (by rw [hW2, hb2e]; exact Box.new W1 114 [.pointer (some ⟨s, 0, none⟩), .func (.func (jnF rd)) #[] #[], .func (.func (ckF rd)) #[] #[]])
  have hB2H : Hid (Below w.heap.size w W2) := Lib.hid (by rw [hW2]; exact hB1H.out.alloc hz1 _)
  have hFb2 : ¬ F b2 := fun hf => by have := hFl.out b2 hf; omega
  rw [← hW2, ← hb2e]
  clear hW2 hb2e hB1H hz1
  refine (hGt.out _ hB2H.out).mono ?_
  rintro e W3 ⟨rfl, hb⟩
  have hB3H := Lib.hid (hB2H.out.trans (hb.mono hB2H.out.size))
  have hX3H := Lib.hid (hX2H.out.below hb)
  have hz3 := hB3H.out.size
  clear hb hGt hB2H hX2H
  go_wp2_with fail
  obtain ⟨W4, hW4⟩ : ∃ W, W = W3.alloc (Obj.cells #[.int .u64 (nd.key : Nat), .int .u64 (nd.val : Nat), .int .u64 (nd.left : Nat), .int .u64 (nd.right : Nat), .int .u64 (nd.mark : Nat), .int .u64 (nd.size : Nat)] 118) := ⟨_, rfl⟩
  obtain ⟨b4, hb4e⟩ : ∃ b, b = W3.heap.size := ⟨_, rfl⟩
  have hX4H : Hid (Box W4 b2 114 [.pointer (some ⟨s, 0, none⟩), .func (.func (jnF rd)) #[] #[], .func (.func (ckF rd)) #[] #[]]) := Lib.hid (by rw [hW4]; exact hX3H.out.alloc _)
  have hB4H : Hid (Below w.heap.size w W4) := Lib.hid (by rw [hW4]; exact hB3H.out.alloc hz3 _)
  rw [← hW4]
  clear hX3H hB3H hz3
  refine (hBg.out _ hB4H.out).mono ?_
  rintro e W5 ⟨rfl, hb⟩
  have hB5H := Lib.hid (hB4H.out.trans (hb.mono hB4H.out.size))
  have hX5H := Lib.hid (hX4H.out.below hb)
  clear hb hBg hB4H hX4H hW4 hb4e
  have c0 := hX5H.out.at' (i := 0) rfl
  have c1 := hX5H.out.at' (i := 1) rfl
  have c2 := hX5H.out.at' (i := 2) rfl
  go_wp2_with fail
  clear c0 c1 c2
  have c0 := hX5H.out.at' (i := 0) rfl
  have c1 := hX5H.out.at' (i := 1) rfl
  have c2 := hX5H.out.at' (i := 2) rfl
  refine (hSpH.out _ hB5H.out).mono ?_
  rintro e W6 ⟨rfl, ⟨hpl, hpm, hpr⟩, hS, hT⟩
  have hX6H := Lib.hid (hX5H.out.turn hT hFb2)
  have hT6H := Lib.hid ((Turn.below (F := F) hB5H.out).trans hT)
  clear hSpH c0 c1 c2 hX5H hB5H
  have hC2 := Lib.hid (hCH.out _ hS hpl hpr)
  clear hS hT hCH
  have c0 := hX6H.out.at' (i := 0) rfl
  have c1 := hX6H.out.at' (i := 1) rfl
  have c2 := hX6H.out.at' (i := 2) rfl
  go_wp2_with fail
  refine hC2.out.mono ?_
  rintro e W7 ⟨rfl, hy, hS, hT⟩
  have hS7H := Lib.hid hS
  have hT7H := Lib.hid (hT6H.out.trans hT)
  clear hS hT hC2 c0 c1 c2 hX6H
  go_wp2
  refine bodyPost_ret (v := .tuple #[.int .u64 (y : Nat), .int .u64 (pm : Nat), .int .i64 0]) (by simp [results, Tryz.f17, go_sem]) rfl ?_
  exact ⟨rfl, hS7H.out, hT7H.out⟩
end
end Go.Proofs.YtijpmjaeanocpaaGreatDoor

set_option linter.unusedVariables false
set_option linter.unusedSimpArgs false
namespace Go.Proofs.YtijpmjaeanocpaaGreatDoor
open Go.RowKit Go.Shelf
def findL (l : List Pr) (k : ByteArray) : Int := if (l[rankL l k]?).map (·.1) = some k then ((rankL l k : Nat) : Int) else -1
theorem findL_lt {l : List Pr} {k : ByteArray} (h : rankL l k < l.length) : findL l k = if (l[rankL l k]'h).1 = k then ((rankL l k : Nat) : Int) else -1 := by
  unfold findL
  simp only [List.getElem?_eq_getElem h, Option.map_some, Option.some.injEq]
theorem findL_ge {l : List Pr} {k : ByteArray} (h : ¬ rankL l k < l.length) : findL l k = -1 := by
  unfold findL
  simp only [List.getElem?_eq_none (Nat.le_of_not_lt h), Option.map_none, reduceCtorEq, if_false]
set_option maxRecDepth 100000 in
theorem refFind_at {w : World} {B c : Nat} {A : Option Addr} {l : List Pr} (h : Prs w B A l) (hB : B ≤ w.heap.size) (hl : l.length ≤ 4398046511104) (hs : Sized l) (key : ByteArray) (hk : key.size ≤ 9223372036854775807) :
    Calls Tryz.prog 16 #[.slice A l.length c, .string key] w fun e w' => e = .returned (.int .i64 (findL l key)) ∧ Below w.heap.size w w' := by
  have hR := Lib.hid (refRank_at (c := c) h hB hl hs key hk)
  have hle := rankL_le l key
  have hv1 := Lib.hid (fun h => findL_lt (l := l) (k := key) h)
  have hv2 := Lib.hid (fun h => findL_ge (l := l) (k := key) h)
  have hH := Lib.hid h
  generalize rankL l key = n at *
  by_cases hlt : n < l.length
  · have hsb := str_beq l[n].1 key
    have hv := Lib.hid (hv1.out hlt)
    have hd : decide ((n : Int) < (l.length : Int)) = true := by simp; omega
    obtain ⟨p, hp⟩ : ∃ p, l[n] = p := ⟨_, rfl⟩
    have hcH := Lib.hid (fun W (hb : Below w.heap.size w W) => by have := (hH.out.below (hb.mono hB)).at' hlt; rw [hp] at this; exact this)
    rw [hp] at hsb hv
    clear hp
    by_cases hpk : p.1 = key
    · have hq : (p.1.toList == key.toList) = true := by rw [hsb]; exact decide_eq_true hpk
      rw [if_pos hpk] at hv
      clear hsb hpk h hs
      go_enter Tryz.func16, Tryz.ntmps16
      go_wp2_with fail
      refine hR.out.mono ?_
      rintro e w1 ⟨rfl, hb1⟩
      obtain ⟨b, o, rfl, _, c1, _⟩ := hcH.out w1 hb1
      have hb1H := Lib.hid hb1
      clear hb1
      go_wp2
      go_ret
      exact ⟨by rw [hv.out]; rfl, hb1H.out⟩
    · have hq : (p.1.toList == key.toList) = false := by rw [hsb]; exact decide_eq_false hpk
      rw [if_neg hpk] at hv
      clear hsb hpk h hs
      go_enter Tryz.func16, Tryz.ntmps16
      go_wp2_with fail
      refine hR.out.mono ?_
      rintro e w1 ⟨rfl, hb1⟩
      obtain ⟨b, o, rfl, _, c1, _⟩ := hcH.out w1 hb1
      have hb1H := Lib.hid hb1
      clear hb1
      go_wp2
      go_ret
      exact ⟨by rw [hv.out]; rfl, hb1H.out⟩
  · have hd : decide (n < l.length) = false := by simp; omega
    have hv := Lib.hid (hv2.out hlt)
    clear h hs hlt
    go_enter Tryz.func16, Tryz.ntmps16
    go_wp2_with fail
    refine hR.out.mono ?_
    rintro e w1 ⟨rfl, hb1⟩
    have hb1H := Lib.hid hb1
    clear hb1
    go_wp2
    go_ret
    exact ⟨by rw [hv.out]; rfl, hb1H.out⟩
end Go.Proofs.YtijpmjaeanocpaaGreatDoor

set_option linter.unusedVariables false
set_option linter.unusedSimpArgs false
namespace Go.Proofs.YtijpmjaeanocpaaGreatDoor
open Go.RowKit Go.Shelf
def cutLn (l : List Pr) (i j : Nat) : List Pr := l.take i ++ l.drop j
set_option maxHeartbeats 2000000 in
set_option maxRecDepth 100000 in
theorem refCut_at {w : World} {B c : Nat} {A : Option Addr} {l : List Pr} (h : Prs w B A l) (hB : B ≤ w.heap.size) (hA : A = none → c = 0) (hc : l.length ≤ c) (hl : l.length ≤ 2000000000000) (i j : Nat) (hi : i ≤ l.length) (hj : j ≤ l.length) :
    Calls Tryz.prog 21 #[.slice A l.length c, .int .i64 (i : Nat), .int .i64 (j : Nat)] w fun e w' => ∃ v, e = .returned v ∧ w'.ownsRow w.heap.size 33 2 v (cutLn l i j).length (prsV (cutLn l i j)) ∧ Below w.heap.size w w' := by
  obtain ⟨A', sl1, sl2, hdr, hA'⟩ := slice_from A l.length j c hj hc
  have hdrH := Lib.hid hdr
  have hA'H := Lib.hid (hA' hA)
  have hAH := Lib.hid hA
  have htlH : Hid (i = (l.take i).length) := Lib.hid (by rw [List.length_take]; omega)
  have hdl : Hid (l.length - j = (l.drop j).length) := Lib.hid (by rw [List.length_drop])
  have hown0 := Lib.hid (own_empty w 33)
  have hP1 := Lib.hid (h.more hB)
  have hl2 : (l.take i).length ≤ l.length := by rw [List.length_take]; omega
  have hl3 : (l.drop j).length ≤ l.length := by rw [List.length_drop]; omega
  clear h hdr hA' hA
  go_enter Tryz.func21, Tryz.ntmps21
  go_wp2_with (at_builtin; go_must (refine app_prs rfl (.tmp 8) (.tmp 11) rfl _ w.heap.size _ [] rfl hown0.out w.heap.size A i c (l.take i) rfl htlH.out ((hP1.out.below ((Below.refl _ w).alloc (Nat.le_refl _) _)).take i) hAH.out (by simp; omega) (by simp) ?_))
  intro v2 w2 hown2 hg2 _
  have hb2 := Lib.hid (own_below ((Below.refl _ w).alloc (Nat.le_refl _) _) hown0.out hg2 (by simp))
  have hown2' : w2.ownsRow w.heap.size 33 2 v2 (l.take i).length (prsV (l.take i)) := by first | exact hown2 | (rw [← htlH.out]; exact hown2) | simpa using hown2
  have hown2H := Lib.hid hown2'
  clear hown2 hown2' hg2 hown0
  go_wp2_with (at_builtin; go_must (refine app_prs rfl (.tmp 13) (.tmp 16) rfl _ w.heap.size _ (l.take i) rfl hown2H.out w.heap.size A' _ _ (l.drop j) rfl hdl.out (hdrH.out w2 w.heap.size l rfl (hP1.out.below hb2.out)) hA'H.out (by omega) hb2.out.size ?_))
  intro v4 w4 hown4 hg4 _
  have hb4 := Lib.hid (own_below hb2.out hown2H.out hg4 hb2.out.size)
  have hown4' : w4.ownsRow w.heap.size 33 2 v4 (cutLn l i j).length (prsV (cutLn l i j)) := by unfold cutLn; first | exact hown4 | simpa [Nat.min_eq_left hi] using hown4
  have hfin := Lib.hid hown4'
  clear hown4 hown4' hg4
  go_wp2
  go_ret
  exact ⟨v4, rfl, hfin.out, hb4.out⟩
set_option maxHeartbeats 2000000 in
set_option maxRecDepth 100000 in
theorem refSame_eq {w : World} {F F' : Nat → Prop} {c c' : Nat} {A A' : Option Addr} {l : List Pr} (h : CellsF w F A (prsV l)) (h' : CellsF w F' A' (prsV l)) (hl : l.length ≤ 4398046511104) :
    Calls Tryz.prog 73 #[.slice A l.length c, .slice A' l.length c'] w fun e w' => e = .returned (.bool true) ∧ Below w.heap.size w w' := by
  have hcf := Lib.hid h
  have hcf' := Lib.hid h'
  clear h h'
  go_enter Tryz.func73, Tryz.ntmps73
  go_wp2_with fail
  go_loopw [5] (fun iv wr => ∃ k : Nat, k ≤ l.length ∧ iv = .int .i64 k ∧ Hid (Below w.heap.size w wr)) (fun iv _ => l.length - (intOf iv).toNat)
  case atStart => exact ⟨0, by omega, rfl, Lib.hid (Below.refl _ _)⟩
  case round =>
    obtain ⟨k, hk, rfl, hb⟩ := hrel
    by_cases hlt : k < l.length
    · obtain ⟨b, o, hAs, q1, q2⟩ := (hcf.out.turn (Turn.below hb.out)).pairs hlt
      obtain ⟨b', o', hAs', q3, q4⟩ := (hcf'.out.turn (Turn.below hb.out)).pairs hlt
      subst hAs hAs'
      generalize l[k] = p at *
      go_wp2
      go_quiet (fail)
      go_wp2
      go_roundw
      case rel => exact ⟨k + 1, by omega, by go_num, Lib.hid (hb.out.trans ((Tx.drewN_below _ _).mono hb.out.size))⟩
      case measure => simp [intOf]; omega
    · obtain rfl : k = l.length := by omega
      go_wp2
      go_ret
      exact ⟨rfl, hb.out⟩
end Go.Proofs.YtijpmjaeanocpaaGreatDoor

set_option linter.unusedVariables false
set_option linter.unusedSimpArgs false
namespace Go.Proofs.YtijpmjaeanocpaaGreatDoor
open Go.RowKit Go.Shelf
theorem rankL_allP {k : ByteArray} : ∀ {l : List Pr}, (∀ p ∈ l, Tx.cmp p.1 k < 0) → rankL l k = l.length
  | [], _ => rfl
  | p :: l, h => by
    rw [rankL_cons, if_pos (h p (by simp)), rankL_allP (fun q hq => h q (by simp [hq]))]
    rfl
structure Parted (l : List Pr) (k : ByteArray) (a b c : List Pr) : Prop where
  app : a ++ (b ++ c) = l
  low : ∀ p ∈ a, Tx.cmp p.1 k < 0
  ky : ∀ p ∈ b, p.1 = k
  one : b.length ≤ 1
  high : ∀ p ∈ c, Tx.cmp k p.1 < 0
theorem Parted.rank {l a b c : List Pr} {k : ByteArray} (h : Parted l k a b c) : rankL l k = a.length := by
  rw [← h.app, rankL_append, rankL_allP h.low, rankL_none]
  · rfl
  · intro p hp
    rcases List.mem_append.1 hp with h1 | h1
    · rw [h.ky p h1, (cmp_zero.2 rfl : Tx.cmp k k = 0)]; omega
    · have h2 := h.high p h1
      have h3 := cmp_swap p.1 k
      omega
theorem Parted.at' {l a b c : List Pr} {k : ByteArray} (h : Parted l k a b c) : l[rankL l k]? = (b ++ c)[0]? := by
  rw [h.rank, ← h.app, List.getElem?_append_right (Nat.le_refl _), Nat.sub_self]
theorem Parted.has {l a b c : List Pr} {k : ByteArray} (h : Parted l k a b c) : (l[rankL l k]?).map (·.1) = some k ↔ b.length = 1 := by
  rw [h.at']
  have h1 := h.one
  constructor
  · intro hk
    cases b with
    | cons p b => simp at h1; simp [h1]
    | nil =>
      cases c with
      | nil => simp at hk
      | cons p c =>
        simp at hk
        have := h.high p (by simp)
        rw [hk, (cmp_zero.2 rfl : Tx.cmp k k = 0)] at this
        omega
  · intro hb
    cases b with
    | nil => simp at hb
    | cons p b =>
      have := h.ky p (by simp)
      simp [this]
theorem Parted.put {l a b c : List Pr} {k v : ByteArray} (h : Parted l k a b c) : putL l (k, v) = a ++ (k, v) :: c := by
  unfold putL
  have hr := h.rank
  have hh := h.has
  have h1 := h.one
  by_cases hb : b.length = 1
  · rw [if_pos (hh.2 hb), hr, ← h.app, List.take_left, ← List.append_assoc, show a.length + 1 = (a ++ b).length by rw [List.length_append, hb], List.drop_left]
  · rw [if_neg (fun e => hb (hh.1 e)), hr, ← h.app, List.take_left, List.drop_left]
    have : b = [] := List.eq_nil_of_length_eq_zero (by omega)
    rw [this]
    rfl
theorem Parted.find {l a b c : List Pr} {k : ByteArray} (h : Parted l k a b c) : findL l k = if b.length = 1 then (a.length : Int) else -1 := by
  unfold findL
  by_cases hb : b.length = 1
  · rw [if_pos (h.has.2 hb), if_pos hb, h.rank]
  · rw [if_neg (fun e => hb (h.has.1 e)), if_neg hb]
theorem Parted.cut {l a b c : List Pr} {k : ByteArray} (h : Parted l k a b c) : cutLn l (rankL l k) (a.length + b.length) = a ++ c := by
  unfold cutLn
  rw [h.rank, ← h.app, List.take_left, ← List.append_assoc, ← List.length_append, List.drop_left]
namespace Ln
theorem prs_len : ∀ (m : Ln), m.prs.length ≤ 1
  | none => by decide
  | one _ _ _ _ _ => Nat.le_refl _
theorem root_ne {R : Nat → Option (List Nat)} : ∀ {m : Ln}, m.At R → (m.root ≠ 0 ↔ m.prs.length = 1)
  | none, _ => by simp [root, prs]
  | one x _ _ _ _, h => ⟨fun _ => rfl, fun _ => h.nz⟩
theorem hs_len : ∀ (m : Ln), m.hs.length = 3 * m.prs.length
  | none => rfl
  | one _ _ _ _ _ => rfl
end Ln
section
variable {rd : Bool} {R R' : Nat → Option (List Nat)} {key : ByteArray} {t l r : BT} {m : Ln}
theorem CutOut.parted (o : CutOut rd R R' key t l m r) (hr : Rising t.prs) : Parted t.prs key l.prs m.prs r.prs := ⟨o.prs, o.low hr, o.ky, m.prs_len, o.high hr⟩
structure InsOut (rd : Bool) (R R' : Nat → Option (List Nat)) (hs : List Nat) (nodes : List Nat) (ps : List Pr) (t' : BT) (old : Ln) : Prop where
  at' : t'.At R'
  oat : old.At R'
  kd : BT.Kd rd t'
  hs : (t'.hs ++ old.hs).Perm hs
  prs : t'.prs = ps
  frame : ∀ z, z ∉ nodes → R' z = R z
theorem ins_bt {x kx vx : Nat} {k v : ByteArray} (h0 : R 0 = none) (ht : t.At R) (hk : BT.Kd rd t) (hm : BT.Lo R x kx vx k v) (hn : (t.hs ++ [x, kx, vx]).Nodup) (sz : t.size ≤ 99) (hr : Rising t.prs) :
    ∃ (t' : BT) (old : Ln) (R' : Nat → Option (List Nat)), insP rd k R t.root x = (R', t'.root, old.root) ∧ InsOut rd R R' (t.hs ++ [x, kx, vx]) (t.nodes ++ [x]) (putL t.prs (k, v)) t' old ∧ (old.root ≠ 0 ↔ 0 ≤ findL t.prs k) := by
  have hh := BT.hgt_le t
  obtain ⟨n1, n2, n3⟩ := List.nodup_append.1 hn
  simp only [List.nodup_cons, List.mem_cons, List.not_mem_nil, or_false, not_or, not_false_eq_true, List.nodup_nil, and_true] at n2
  obtain ⟨l', m', r', R1, g1, o⟩ := cutS_bt (rd := rd) k 200 t R h0 ht hk n1 (by omega) (by omega)
  have hpt := o.parted hr
  have hpr := o.hs
  have fr : ∀ z, z ∉ t.hs → R1 z = R z := fun z hz => o.frame z (fun h => hz (BT.nodes_hs t z h))
  have sub : ∀ z, z ∈ l'.hs ∨ z ∈ m'.hs ∨ z ∈ r'.hs → z ∈ t.hs := fun z hz => by
    rw [← hpr]; simp only [List.mem_append]; exact hz
  have hx : x ∉ t.hs := fun h => n3 x h x (by simp) rfl
  have hkx : kx ∉ t.hs := fun h => n3 kx h kx (by simp) rfl
  have hvx : vx ∉ t.hs := fun h => n3 vx h vx (by simp) rfl
  have h01 : R1 0 = none := (o.frame 0 (BT.nodes_zero h0 ht)).trans h0
  have hlo1 : BT.Lo R1 x kx vx k v := hm.congr (fr x hx) (fr kx hkx) (fr vx hvx)
  have nr' : (l'.hs ++ (m'.hs ++ r'.hs)).Nodup := by rw [hpr]; exact n1
  obtain ⟨p1, p2, p3⟩ := List.nodup_append.1 nr'
  obtain ⟨p4, p5, p6⟩ := List.nodup_append.1 p2
  have hnJ : (BT.node x kx vx 0 k v l' r').hs.Nodup := BT.node_nodup.2 ⟨p1, p5, ⟨fun h => hx (sub x (.inl h)), fun h => hkx (sub kx (.inl h)), fun h => hvx (sub vx (.inl h))⟩,
    ⟨fun h => hx (sub x (.inr (.inr h))), fun h => hkx (sub kx (.inr (.inr h))), fun h => hvx (sub vx (.inr (.inr h)))⟩, ⟨n2.1.1, n2.1.2, n2.2⟩, fun z hz hz' => p3 z hz z (List.mem_append.2 (.inr hz')) rfl⟩
  have sz' : l'.size + r'.size ≤ 100 := by
    have h1 := congrArg List.length o.nodes
    simp only [List.length_append, BT.nodes_len] at h1
    omega
  obtain ⟨t', R2, g2, q1, q2, q3, q4⟩ := cutJ_bt (rd := rd) h01 o.la o.ra o.lk o.rk hlo1 hnJ sz'
  have fr2 : ∀ z, z ∉ l'.hs → z ≠ x → z ∉ r'.hs → R2 z = R1 z := fun z h1 h2 h3 => q4 z (by
    simp only [BT.nodes, List.mem_append, List.mem_cons, not_or]
    exact ⟨fun h => h1 (BT.nodes_hs l' z h), h2, fun h => h3 (BT.nodes_hs r' z h)⟩)
  refine ⟨t', m', R2, ?_, ⟨q1, ?_, q3, ?_, ?_, fun z hz => ?_⟩, ?_⟩
  · unfold insP
    rw [g1]
    dsimp only
    rw [g2]
  · exact o.ma.congr fun z hz => fr2 z (fun h => p3 z h z (List.mem_append.2 (.inl hz)) rfl) (fun e => hx (e ▸ sub z (.inr (.inl hz)))) (fun h => p6 z hz z h rfl)
  · rw [q2.hs]
    simp only [BT.hs]
    rw [← hpr, List.perm_iff_count]
    intro z
    simp only [List.count_append, List.count_cons, List.count_nil]
    omega
  · rw [q2.prs, hpt.put]
    rfl
  · simp only [List.mem_append, List.mem_singleton, not_or] at hz
    refine (q4 z ?_).trans (o.frame z hz.1)
    simp only [BT.nodes, List.mem_append, List.mem_cons, not_or]
    have hsub : ∀ y, y ∈ l'.nodes ∨ y ∈ m'.nodes ∨ y ∈ r'.nodes → y ∈ t.nodes := fun y hy => by rw [← o.nodes]; simp only [List.mem_append]; exact hy
    exact ⟨fun h => hz.1 (hsub z (.inl h)), hz.2, fun h => hz.1 (hsub z (.inr (.inr h)))⟩
  · rw [Ln.root_ne o.ma, hpt.find]
    split <;> omega
theorem del_bt (h0 : R 0 = none) (ht : t.At R) (hk : BT.Kd rd t) (hn : t.hs.Nodup) (sz : t.size ≤ 99) (hr : Rising t.prs) :
    ∃ (t' : BT) (old : Ln) (R' : Nat → Option (List Nat)), delP rd key R t.root = (R', t'.root, old.root) ∧ InsOut rd R R' t.hs t.nodes (if 0 ≤ findL t.prs key then cutLn t.prs (findL t.prs key).toNat ((findL t.prs key).toNat + 1) else t.prs) t' old ∧ (old.root ≠ 0 ↔ 0 ≤ findL t.prs key) := by
  have hh := BT.hgt_le t
  obtain ⟨l', m', r', R1, g1, o⟩ := cutS_bt (rd := rd) key 200 t R h0 ht hk hn (by omega) (by omega)
  have hpt := o.parted hr
  have hpr := o.hs
  have h01 : R1 0 = none := (o.frame 0 (BT.nodes_zero h0 ht)).trans h0
  have nr' : (l'.hs ++ (m'.hs ++ r'.hs)).Nodup := by rw [hpr]; exact hn
  obtain ⟨p1, p2, p3⟩ := List.nodup_append.1 nr'
  obtain ⟨p4, p5, p6⟩ := List.nodup_append.1 p2
  have sz' : l'.size + r'.size ≤ 100 := by
    have h1 := congrArg List.length o.nodes
    simp only [List.length_append, BT.nodes_len] at h1
    omega
  obtain ⟨t', R2, g2, q1, q3, q5, q6, q7, q4⟩ := cutC_bt (rd := rd) h01 o.la o.ra o.lk o.rk (List.nodup_append.2 ⟨p1, p5, fun a ha b hb => p3 a ha b (List.mem_append.2 (.inr hb))⟩) sz'
  refine ⟨t', m', R2, ?_, ⟨q1, ?_, q3, ?_, ?_, fun z hz => ?_⟩, ?_⟩
  · unfold delP
    rw [g1]
    dsimp only
    rw [g2]
  · refine o.ma.congr fun z hz => q4 z ?_
    rw [List.mem_append, not_or]
    exact ⟨fun h => p3 z (BT.nodes_hs l' z h) z (List.mem_append.2 (.inl hz)) rfl, fun h => p6 z hz z (BT.nodes_hs r' z h) rfl⟩
  · rw [q5, ← hpr, List.perm_iff_count]
    intro z
    simp only [List.count_append]
    omega
  · rw [q7, hpt.find]
    have hc := hpt.cut
    rw [hpt.rank] at hc
    by_cases hb : m'.prs.length = 1
    · rw [if_pos hb, if_pos (by omega), Int.toNat_natCast, ← hc, hb]
    · rw [if_neg hb, if_neg (by omega), ← o.prs]
      have : m'.prs = [] := List.eq_nil_of_length_eq_zero (by have := m'.prs_len; omega)
      rw [this]
      rfl
  · refine (q4 z ?_).trans (o.frame z hz)
    rw [List.mem_append, not_or]
    have hsub : ∀ y, y ∈ l'.nodes ∨ y ∈ m'.nodes ∨ y ∈ r'.nodes → y ∈ t.nodes := fun y hy => by rw [← o.nodes]; simp only [List.mem_append]; exact hy
    exact ⟨fun h => hz (hsub z (.inl h)), fun h => hz (hsub z (.inr (.inr h)))⟩
  · rw [Ln.root_ne o.ma, hpt.find]
    split <;> omega
end
end Go.Proofs.YtijpmjaeanocpaaGreatDoor

set_option linter.unusedVariables false
set_option linter.unusedSimpArgs false
namespace Go.Proofs.YtijpmjaeanocpaaGreatDoor
open Go.RowKit Go.Shelf
theorem CellsF.take' {w : World} {F : Nat → Prop} {A : Option Addr} {l : List Pr} (h : CellsF w F A (prsV l)) (k : Nat) : CellsF w F A (prsV (l.take k)) := by
  rw [prsV_take]
  exact h.take _
end Go.Proofs.YtijpmjaeanocpaaGreatDoor

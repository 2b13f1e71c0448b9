/-
  The seat's own texts, shared part e: PaW6, PaW7, PrsF, CutSm, PaL, Shr, Nds, PaH, LeafP, PaT2, Leaf14, PaS, Awk14, PaG, PaBase.
-/
import Derived.Test.YtjpmlneihbckpaaGreatDoorPd
import Derived.Laws.AppendOwnNone
import Derived.Maps.AppendAt
import Derived.Deep.AppendLies
import Derived.Laws.OwnMore
/- The walks of package parts: a cutter's last and concat. -/
set_option linter.unusedVariables false
set_option linter.unusedSimpArgs false
namespace Go.Proofs.YtjpmlneihbckpaaGreatDoor
open Go.RowKit Go.Shelf
section
variable {s : Nat} {F : Nat → Prop} {H : List Nat} {P q most last G : Nat}
set_option maxHeartbeats 8000000 in
set_option maxRecDepth 100000 in
theorem paLast_at (rd : Bool) : ∀ (f : Nat) (w : World) (R : Nat → Option (List Nat)) (x : Nat), f ≤ 200 → x < 18446744073709551616 → Short R → StoreIs w s F R H P q most last G →
    Calls Tryz.prog 104 #[cutV s rd, .int .u64 (x : Nat), .int .i64 ((200 - f : Nat) : Int)] w fun e w' => e = .returned (.tuple #[.int .u64 ((cutL rd f R x).2.1 : Nat), .int .u64 ((cutL rd f R x).2.2 : Nat)]) ∧ ((cutL rd f R x).2.1 < 18446744073709551616 ∧ (cutL rd f R x).2.2 < 18446744073709551616) ∧ StoreIs w' s F (cutL rd f R x).1 H P q most last G ∧ Turn w F w' F
  | 0, w, R, x, hf, hx, hsh, h => by
    have hX0 := Box.new w 124 [.pointer (some ⟨s, 0, none⟩), .func (.func (jnF rd)) #[] #[], .func (.func (ckF rd)) #[] #[]]
    obtain ⟨W0, hW0⟩ : ∃ W, W = w.alloc (Obj.cells #[.pointer (some ⟨s, 0, none⟩), .func (.func (jnF rd)) #[] #[], .func (.func (ckF rd)) #[] #[]] 124) := ⟨_, rfl⟩
    have hb0 : Below w.heap.size w W0 := by rw [hW0]; exact (Below.refl _ w).alloc (Nat.le_refl _) _
    rw [← hW0] at hX0
    have hFb0 : ¬ F w.heap.size := fun hf => by have := h.lt hf; omega
    have hFl := Lib.hid (fun b (hf : F b) => h.lt hf)
    have hS0 := h.below hb0
    obtain ⟨n0, hr0, _⟩ := hS0.rd
    have hX0H := Lib.hid hX0
    have hT0H : Hid (Turn w F W0 F) := Lib.hid (Turn.below hb0)
    have hB0H := Lib.hid hb0
    have hW0H := Lib.hid hW0
    have hS0H := Lib.hid hS0
    have hr0H := Lib.hid hr0
    clear hX0 hb0 hW0 hS0
    obtain ⟨nd, hnd⟩ : ∃ nd, nodeG R x = nd := ⟨_, rfl⟩
    have hok := hnd ▸ hr0.nodeG x
    have hl := hok.left
    have hr := hok.right
    clear h hr0 hok
    have hvH : Hid (cutL rd 0 R x = (R, nd.left, x)) := Lib.hid (by rw [cutL, hnd])
    show Calls Tryz.prog 104 #[.agg #[.pointer (some ⟨s, 0, none⟩), .func (.func (jnF rd)) #[] #[], .func (.func (ckF rd)) #[] #[]], .int .u64 (x : Nat), .int .i64 200] w _
    by_cases hz : nd.right = 0
    · have dz : ((nd.right : Int) == 0) = true := by simp; omega
      clear hz
      go_enter Tryz.func104, Tryz.ntmps104
      go_wp2_with fail
      rw [← hW0H.out]
      have hK := Lib.hid (paKey_at hr0H.out hsh rd x hx nd hnd)
      have c0 := hX0H.out.at' (i := 0) rfl
      have c1 := hX0H.out.at' (i := 1) rfl
      have c2 := hX0H.out.at' (i := 2) rfl
      go_wp2_with fail
      refine hK.out.mono ?_
      rintro e W1 ⟨rfl, hb⟩
      have hB1H := Lib.hid (hB0H.out.trans (hb.mono hB0H.out.size))
      have hX1H := Lib.hid (hX0H.out.below hb)
      have hS1H := Lib.hid (hS0H.out.below hb)
      have hz1 := hB1H.out.size
      clear hb hK c0 c1 c2 hr0H hX0H hS0H hB0H hT0H
      clear hnd
      go_wp2
      refine bodyPost_ret (v := .tuple #[.int .u64 (nd.left : Nat), .int .u64 (x : Nat)]) (by simp [results, Tryz.f104, go_sem]) rfl ?_
      rw [hvH.out]
      exact ⟨rfl, ⟨hl, hx⟩, hS1H.out.below ((Below.refl _ _).alloc (Nat.le_refl _) _), Turn.below (hB1H.out.alloc hz1 _)⟩
    · have dz : ((nd.right : Int) == 0) = false := by simp; omega
      clear hz
      go_enter Tryz.func104, Tryz.ntmps104
      go_wp2_with fail
      rw [← hW0H.out]
      have hK := Lib.hid (paKey_at hr0H.out hsh rd x hx nd hnd)
      have c0 := hX0H.out.at' (i := 0) rfl
      have c1 := hX0H.out.at' (i := 1) rfl
      have c2 := hX0H.out.at' (i := 2) rfl
      go_wp2_with fail
      refine hK.out.mono ?_
      rintro e W1 ⟨rfl, hb⟩
      have hB1H := Lib.hid (hB0H.out.trans (hb.mono hB0H.out.size))
      have hX1H := Lib.hid (hX0H.out.below hb)
      have hS1H := Lib.hid (hS0H.out.below hb)
      have hz1 := hB1H.out.size
      clear hb hK c0 c1 c2 hr0H hX0H hS0H hB0H hT0H
      clear hnd
      go_wp2
      refine bodyPost_ret (v := .tuple #[.int .u64 (nd.left : Nat), .int .u64 (x : Nat)]) (by simp [results, Tryz.f104, go_sem]) rfl ?_
      rw [hvH.out]
      exact ⟨rfl, ⟨hl, hx⟩, hS1H.out.below ((Below.refl _ _).alloc (Nat.le_refl _) _), Turn.below (hB1H.out.alloc hz1 _)⟩
  | f + 1, w, R, x, hf, hx, hsh, h => by
    have hX0 := Box.new w 124 [.pointer (some ⟨s, 0, none⟩), .func (.func (jnF rd)) #[] #[], .func (.func (ckF rd)) #[] #[]]
    obtain ⟨W0, hW0⟩ : ∃ W, W = w.alloc (Obj.cells #[.pointer (some ⟨s, 0, none⟩), .func (.func (jnF rd)) #[] #[], .func (.func (ckF rd)) #[] #[]] 124) := ⟨_, rfl⟩
    have hb0 : Below w.heap.size w W0 := by rw [hW0]; exact (Below.refl _ w).alloc (Nat.le_refl _) _
    rw [← hW0] at hX0
    have hFb0 : ¬ F w.heap.size := fun hf => by have := h.lt hf; omega
    have hFl := Lib.hid (fun b (hf : F b) => h.lt hf)
    have hS0 := h.below hb0
    obtain ⟨n0, hr0, _⟩ := hS0.rd
    have hX0H := Lib.hid hX0
    have hT0H : Hid (Turn w F W0 F) := Lib.hid (Turn.below hb0)
    have hB0H := Lib.hid hb0
    have hW0H := Lib.hid hW0
    have hS0H := Lib.hid hS0
    have hr0H := Lib.hid hr0
    clear hX0 hb0 hW0 hS0
    obtain ⟨nd, hnd⟩ : ∃ nd, nodeG R x = nd := ⟨_, rfl⟩
    have hok := hnd ▸ hr0.nodeG x
    have hl := hok.left
    have hr := hok.right
    clear h hr0 hok
    have hdn : Hid (((200 - f : Nat) : Int) = ((200 - (f + 1) : Nat) : Int) + 1) := Lib.hid (by omega)
    have hd0 : (((200 - (f + 1) : Nat) : Int) == 200) = false := by simp; omega
    obtain ⟨d, hd⟩ : ∃ d, d = 200 - (f + 1) := ⟨_, rfl⟩
    rw [← hd] at hdn hd0 ⊢
    have hdl : d < 200 := by omega
    clear hd
    have ih := fun w R x => paLast_at rd f w R x
    unfold cutV
    by_cases hz : nd.right = 0
    · have dz : ((nd.right : Int) == 0) = true := by simp; omega
      have hvH : Hid (cutL rd (f + 1) R x = (R, nd.left, x)) := Lib.hid (by rw [cutL, hnd, if_pos hz])
      clear hz ih
      go_enter Tryz.func104, Tryz.ntmps104
      go_wp2_with fail
      rw [← hW0H.out]
      have hK := Lib.hid (paKey_at hr0H.out hsh rd x hx nd hnd)
      have c0 := hX0H.out.at' (i := 0) rfl
      have c1 := hX0H.out.at' (i := 1) rfl
      have c2 := hX0H.out.at' (i := 2) rfl
      go_wp2_with fail
      refine hK.out.mono ?_
      rintro e W1 ⟨rfl, hb⟩
      have hB1H := Lib.hid (hB0H.out.trans (hb.mono hB0H.out.size))
      have hX1H := Lib.hid (hX0H.out.below hb)
      have hS1H := Lib.hid (hS0H.out.below hb)
      have hz1 := hB1H.out.size
      clear hb hK c0 c1 c2 hr0H hX0H hS0H hB0H hT0H
      clear hnd
      go_wp2
      refine bodyPost_ret (v := .tuple #[.int .u64 (nd.left : Nat), .int .u64 (x : Nat)]) (by simp [results, Tryz.f104, go_sem]) rfl ?_
      rw [hvH.out]
      exact ⟨rfl, ⟨hl, hx⟩, hS1H.out.below ((Below.refl _ _).alloc (Nat.le_refl _) _), Turn.below (hB1H.out.alloc hz1 _)⟩
    · have dz : ((nd.right : Int) == 0) = false := by simp; omega
      have hv : cutL rd (f + 1) R x = ((cutJ rd (cutL rd f R nd.right).1 nd.left x (cutL rd f R nd.right).2.1).1, (cutJ rd (cutL rd f R nd.right).1 nd.left x (cutL rd f R nd.right).2.1).2, (cutL rd f R nd.right).2.2) := by rw [cutL, hnd, if_neg hz]
      clear hz
      go_enter Tryz.func104, Tryz.ntmps104
      go_wp2_with fail
      rw [← hW0H.out]
      have hK := Lib.hid (paKey_at hr0H.out hsh rd x hx nd hnd)
      have c0 := hX0H.out.at' (i := 0) rfl
      have c1 := hX0H.out.at' (i := 1) rfl
      have c2 := hX0H.out.at' (i := 2) rfl
      go_wp2_with fail
      refine hK.out.mono ?_
      rintro e W1 ⟨rfl, hb⟩
      have hB1H := Lib.hid (hB0H.out.trans (hb.mono hB0H.out.size))
      have hX1H := Lib.hid (hX0H.out.below hb)
      have hS1H := Lib.hid (hS0H.out.below hb)
      have hz1 := hB1H.out.size
      clear hb hK c0 c1 c2 hr0H hX0H hS0H hB0H hT0H
      clear hnd
      generalize keyR R nd = kk at *
      have c0 := hX1H.out.at' (i := 0) rfl
      have c1 := hX1H.out.at' (i := 1) rfl
      have c2 := hX1H.out.at' (i := 2) rfl
      have hlw := hX1H.out.lt
      go_wp2_with fail
      clear c0 c1 c2 hlw
      obtain ⟨W2, hW2⟩ : ∃ W, W = W1.alloc (Obj.cells #[.int .u64 (nd.key : Nat), .int .u64 (nd.val : Nat), .int .u64 (nd.left : Nat), .int .u64 (nd.right : Nat), .int .u64 (nd.mark : Nat), .int .u64 (nd.size : Nat)] 53) := ⟨_, rfl⟩
      obtain ⟨b2, hb2e⟩ : ∃ b, b = W1.heap.size := ⟨_, rfl⟩
      have hY2H : Hid (Box W2 b2 53 [.int .u64 (nd.key : Nat), .int .u64 (nd.val : Nat), .int .u64 (nd.left : Nat), .int .u64 (nd.right : Nat), .int .u64 (nd.mark : Nat), .int .u64 (nd.size : Nat)]) := Lib.hid (by rw [hW2, hb2e]; exact Box.new W1 53 [.int .u64 (nd.key : Nat), .int .u64 (nd.val : Nat), .int .u64 (nd.left : Nat), .int .u64 (nd.right : Nat), .int .u64 (nd.mark : Nat), .int .u64 (nd.size : Nat)])
      have hX2H : Hid (Box W2 w.heap.size 124 [.pointer (some ⟨s, 0, none⟩), .func (.func (jnF rd)) #[] #[], .func (.func (ckF rd)) #[] #[]]) := Lib.hid (by rw [hW2]; exact hX1H.out.alloc _)
      have hB2H : Hid (Below w.heap.size w W2) := Lib.hid (by rw [hW2]; exact hB1H.out.alloc hz1 _)
      have hS2H : Hid (StoreIs W2 s F R H P q most last G) := Lib.hid (by rw [hW2]; exact hS1H.out.below ((Below.refl _ _).alloc (Nat.le_refl _) _))
      have hFb2 : ¬ F b2 := fun hf => by have := hFl.out b2 hf; omega
      have hW2H := Lib.hid hW2
      have hb2eH := Lib.hid hb2e
      clear hW2 hb2e hX1H hS1H hB1H
      have hih := ih W2 R nd.right (by omega) hr hsh hS2H.out
      rw [hdn.out] at hih
      unfold cutV at hih
      generalize cutL rd f R nd.right = p at *
      obtain ⟨Ra, pl, pm⟩ := p
      simp only at hih hv
      have hihH := Lib.hid hih
      have hvH := Lib.hid hv
      clear hih hv hdn ih hsh
      have c0 := hX2H.out.at' (i := 0) rfl
      have c1 := hX2H.out.at' (i := 1) rfl
      have c2 := hX2H.out.at' (i := 2) rfl
      have y2 := hY2H.out.at' (i := 2) rfl
      have y3 := hY2H.out.at' (i := 3) rfl
      rw [← hW2H.out]
      refine hihH.out.mono ?_
      rintro e W3 ⟨rfl, ⟨hpl, hpm⟩, hS, hT⟩
      rw [← hb2eH.out]
      have hX3H := Lib.hid (hX2H.out.turn hT hFb0)
      have hY3H := Lib.hid (hY2H.out.turn hT hFb2)
      have hT3H := Lib.hid ((Turn.below (F := F) hB2H.out).trans hT)
      have hJ := paJoin_at hS rd hl hx hpl
      unfold cutV at hJ
      have hJH := Lib.hid hJ
      clear hS hT hihH hJ hX2H hY2H hS2H hB2H
      clear c0 c1 c2 y2 y3
      generalize cutJ rd Ra nd.left x pl = pj at *
      obtain ⟨Rb, y⟩ := pj
      simp only at hJH hvH
      have c0 := hX3H.out.at' (i := 0) rfl
      have c1 := hX3H.out.at' (i := 1) rfl
      have c2 := hX3H.out.at' (i := 2) rfl
      have y2 := hY3H.out.at' (i := 2) rfl
      have y3 := hY3H.out.at' (i := 3) rfl
      go_wp2_with fail
      refine hJH.out.mono ?_
      rintro e W4 ⟨rfl, hy, hS, hT⟩
      have hS4H := Lib.hid hS
      have hT4H := Lib.hid (hT3H.out.trans hT)
      clear hS hT hJH hX3H hY3H hT3H
      clear c0 c1 c2 y2 y3
      go_wp2
      refine bodyPost_ret (v := .tuple #[.int .u64 (y : Nat), .int .u64 (pm : Nat)]) (by simp [results, Tryz.f104, go_sem]) rfl ?_
      rw [hvH.out]
      exact ⟨rfl, ⟨hy, hpm⟩, hS4H.out, hT4H.out⟩
set_option maxHeartbeats 4000000 in
set_option maxRecDepth 100000 in
theorem paConcat_at {w : World} {R : Nat → Option (List Nat)} (h : StoreIs w s F R H P q most last G) (hsh : Short R) (rd : Bool) {l r : Nat} (hl : l < 18446744073709551616) (hr : r < 18446744073709551616) :
    Calls Tryz.prog 76 #[cutV s rd, .int .u64 (l : Nat), .int .u64 (r : Nat)] w fun e w' => e = .returned (.int .u64 ((cutC rd R l r).2 : Nat)) ∧ (cutC rd R l r).2 < 18446744073709551616 ∧ StoreIs w' s F (cutC rd R l r).1 H P q most last G ∧ Turn w F w' F := by
  have hX0 := Box.new w 124 [.pointer (some ⟨s, 0, none⟩), .func (.func (jnF rd)) #[] #[], .func (.func (ckF rd)) #[] #[]]
  obtain ⟨W0, hW0⟩ : ∃ W, W = w.alloc (Obj.cells #[.pointer (some ⟨s, 0, none⟩), .func (.func (jnF rd)) #[] #[], .func (.func (ckF rd)) #[] #[]] 124) := ⟨_, rfl⟩
  have hb0 : Below w.heap.size w W0 := by rw [hW0]; exact (Below.refl _ w).alloc (Nat.le_refl _) _
  rw [← hW0] at hX0
  have hFb0 : ¬ F w.heap.size := fun hf => by have := h.lt hf; omega
  have hFl := Lib.hid (fun b (hf : F b) => h.lt hf)
  have hS0 := h.below hb0
  obtain ⟨n0, hr0, _⟩ := hS0.rd
  have hX0H := Lib.hid hX0
  have hT0H : Hid (Turn w F W0 F) := Lib.hid (Turn.below hb0)
  have hB0H := Lib.hid hb0
  have hW0H := Lib.hid hW0
  have hS0H := Lib.hid hS0
  have hr0H := Lib.hid hr0
  clear hX0 hb0 hW0 hS0
  clear h hr0 hr0H
  by_cases hl0 : l = 0
  · have dl : ((l : Int) == 0) = true := by simp; omega
    have hvH : Hid (cutC rd R l r = (R, r)) := Lib.hid (by unfold cutC; rw [if_pos hl0])
    clear hl0
    unfold cutV
    go_enter Tryz.func76, Tryz.ntmps76
    go_wp2
    rw [← hW0H.out]
    go_ret
    rw [hvH.out]
    exact ⟨rfl, hr, hS0H.out, hT0H.out⟩
  · have dl : ((l : Int) == 0) = false := by simp; omega
    have hv : cutC rd R l r = cutJ rd (cutL rd 200 R l).1 (cutL rd 200 R l).2.1 (cutL rd 200 R l).2.2 r := by unfold cutC; rw [if_neg hl0]
    have hLa : Calls Tryz.prog 104 #[cutV s rd, .int .u64 (l : Nat), .int .i64 0] W0 _ := paLast_at rd 200 W0 R l (Nat.le_refl _) hl hsh hS0H.out
    generalize cutL rd 200 R l = p at *
    obtain ⟨Ra, pl, pm⟩ := p
    simp only at hLa hv
    unfold cutV at hLa
    have hLaH := Lib.hid hLa
    have hvH := Lib.hid hv
    clear hl0 hLa hv
    unfold cutV
    go_enter Tryz.func76, Tryz.ntmps76
    have c0 := hX0H.out.at' (i := 0) rfl
    have c1 := hX0H.out.at' (i := 1) rfl
    have c2 := hX0H.out.at' (i := 2) rfl
    go_wp2_with fail
    rw [← hW0H.out]
    go_wp2_with fail
    refine hLaH.out.mono ?_
    rintro e W1 ⟨rfl, ⟨hpl, hpm⟩, hS, hT⟩
    have hX1H := Lib.hid (hX0H.out.turn hT hFb0)
    have hT1H := Lib.hid (hT0H.out.trans hT)
    have hJ := paJoin_at hS rd hpl hpm hr
    unfold cutV at hJ
    have hJH := Lib.hid hJ
    clear hS hT hLaH hJ hX0H hS0H hT0H hB0H c0 c1 c2
    generalize cutJ rd Ra pl pm r = pj at *
    obtain ⟨Rb, y⟩ := pj
    simp only at hJH hvH
    have c0 := hX1H.out.at' (i := 0) rfl
    have c1 := hX1H.out.at' (i := 1) rfl
    have c2 := hX1H.out.at' (i := 2) rfl
    go_wp2_with fail
    refine hJH.out.mono ?_
    rintro e W2 ⟨rfl, hy, hS, hT⟩
    have hS2H := Lib.hid hS
    have hT2H := Lib.hid (hT1H.out.trans hT)
    clear hS hT hJH hX1H hT1H c0 c1 c2
    go_wp2
    go_ret
    rw [hvH.out]
    exact ⟨rfl, hy, hS2H.out, hT2H.out⟩
end
end Go.Proofs.YtjpmlneihbckpaaGreatDoor
/- The walks of package parts: Split, Concat, Insert, Delete, where nothing stands against them. -/
set_option linter.unusedVariables false
set_option linter.unusedSimpArgs false
namespace Go.Proofs.YtjpmlneihbckpaaGreatDoor
open Go.RowKit Go.Shelf
/-- what Insert leaves, answers: the tree, the elder node -/
def insP (rd : Bool) (key : ByteArray) (R : Nat → Option (List Nat)) (x m : Nat) : (Nat → Option (List Nat)) × Nat × Nat :=
  ((cutJ rd (cutS rd key 200 R x).1 (cutS rd key 200 R x).2.1 m (cutS rd key 200 R x).2.2.2).1, (cutJ rd (cutS rd key 200 R x).1 (cutS rd key 200 R x).2.1 m (cutS rd key 200 R x).2.2.2).2, (cutS rd key 200 R x).2.2.1)
def delP (rd : Bool) (key : ByteArray) (R : Nat → Option (List Nat)) (x : Nat) : (Nat → Option (List Nat)) × Nat × Nat :=
  ((cutC rd (cutS rd key 200 R x).1 (cutS rd key 200 R x).2.1 (cutS rd key 200 R x).2.2.2).1, (cutC rd (cutS rd key 200 R x).1 (cutS rd key 200 R x).2.1 (cutS rd key 200 R x).2.2.2).2, (cutS rd key 200 R x).2.2.1)
theorem insP_keeps (rd : Bool) (key : ByteArray) (R : Nat → Option (List Nat)) (x m : Nat) : KeepsN R (insP rd key R x m).1 := (cutS_keeps rd key 200 R x).trans (cutJ_keeps rd _ _ _ _)
theorem delP_keeps (rd : Bool) (key : ByteArray) (R : Nat → Option (List Nat)) (x : Nat) : KeepsN R (delP rd key R x).1 := (cutS_keeps rd key 200 R x).trans (cutC_keeps rd _ _ _)
section
variable {w : World} {s : Nat} {F : Nat → Prop} {R : Nat → Option (List Nat)} {H : List Nat} {P q most last G : Nat}
set_option maxHeartbeats 4000000 in
set_option maxRecDepth 100000 in
theorem paSplitT_at (h : StoreIs w s F R H P q most last G) (hsh : Short R) (rd : Bool) {x : Nat} (hx : x < 18446744073709551616) (key : ByteArray) (hk : key.size ≤ 1000) (hi0 : isR R x = true) :
    Calls Tryz.prog 37 #[.pointer (some ⟨s, 0, none⟩), .int .i64 (kindZ rd), .int .u64 (x : Nat), .string key] w fun e w' => e = .returned (.tuple #[.int .u64 ((cutS rd key 200 R x).2.1 : Nat), .int .u64 ((cutS rd key 200 R x).2.2.1 : Nat), .int .u64 ((cutS rd key 200 R x).2.2.2 : Nat), .int .i64 0]) ∧ StoreIs w' s F (cutS rd key 200 R x).1 H P q most last G ∧ Turn w F w' F := by
  obtain ⟨n, hrd, _⟩ := h.rd
  obtain ⟨W0, hW0⟩ : ∃ W, W = w.alloc (Obj.cells #[.int .u64 (x : Nat)] 32) := ⟨_, rfl⟩
  have hX0 : Box W0 w.heap.size 32 [.int .u64 (x : Nat)] := by rw [hW0]; exact Box.new w 32 [.int .u64 (x : Nat)]
  have hb0 : Below w.heap.size w W0 := by rw [hW0]; exact (Below.refl _ w).alloc (Nat.le_refl _) _
  have hAt : HsAt W0 (some ⟨w.heap.size, 0, none⟩) [x] := fun i hi => ⟨w.heap.size, rfl, by
    have := hX0.at' (i := i) (v := .int .u64 (([x] : List Nat)[i] : Nat)) (by
      obtain rfl : i = 0 := by simp at hi; omega
      rfl)
    exact this⟩
  have hAsk : Calls Tryz.prog 70 #[.pointer (some ⟨s, 0, none⟩), .int .i64 (kindZ rd), .string key, .slice (some ⟨w.heap.size, 0, none⟩) 1 1] W0 _ := paAsk_ok (hrd.below hb0) rd key hk (some ⟨w.heap.size, 0, none⟩) 1 [x] (by simp) hAt (by simp; omega) (by simp; exact hi0)
  have hFl := Lib.hid (fun b (hf : F b) => h.lt hf)
  have hHs := Lib.hid h
  have hAskH := Lib.hid hAsk
  have hb0H := Lib.hid hb0
  have hW0H := Lib.hid hW0
  unfold cutV at hAskH
  clear hX0 hAt hAsk hb0 hW0 hi0
  have hSp : ∀ W, Below w.heap.size w W → Calls Tryz.prog 72 #[cutV s rd, .int .u64 (x : Nat), .string key, .int .i64 0] W _ := fun W hb => paSplit_at rd key 200 W R x (Nat.le_refl _) hx hsh (hHs.out.below hb)
  unfold cutV at hSp
  have hkeep := cutS_keeps rd key 200 R x
  generalize cutS rd key 200 R x = p at *
  obtain ⟨Ra, pl, pm, pr⟩ := p
  dsimp only at hSp hkeep ⊢
  have hSpH := Lib.hid hSp
  have hsha := hkeep.short hsh
  clear hSp hkeep
  go_enter Tryz.func37, Tryz.ntmps37
  go_wp2_with fail
  rw [← hW0H.out]
  refine hAskH.out.mono ?_
  rintro e W1 ⟨rfl, hb⟩
  have hB1H := Lib.hid (hb0H.out.trans (hb.mono hb0H.out.size))
  have hz1 := hB1H.out.size
  clear hb hAskH hW0H hb0H
  go_wp2_with fail
  obtain ⟨W2, hW2⟩ : ∃ W, W = W1.alloc (Obj.cells #[.pointer (some ⟨s, 0, none⟩), .func (.func (jnF rd)) #[] #[], .func (.func (ckF rd)) #[] #[]] 124) := ⟨_, rfl⟩
  obtain ⟨b2, hb2e⟩ : ∃ b, b = W1.heap.size := ⟨_, rfl⟩
  have hX2H : Hid (Box W2 b2 124 [.pointer (some ⟨s, 0, none⟩), .func (.func (jnF rd)) #[] #[], .func (.func (ckF rd)) #[] #[]]) := Lib.hid (by rw [hW2, hb2e]; exact Box.new W1 124 [.pointer (some ⟨s, 0, none⟩), .func (.func (jnF rd)) #[] #[], .func (.func (ckF rd)) #[] #[]])
  have hB2H : Hid (Below w.heap.size w W2) := Lib.hid (by rw [hW2]; exact hB1H.out.alloc hz1 _)
  have hFb2 : ¬ F b2 := fun hf => by have := hFl.out b2 hf; omega
  rw [← hW2, ← hb2e]
  clear hW2 hb2e hB1H hz1
  have c0 := hX2H.out.at' (i := 0) rfl
  have c1 := hX2H.out.at' (i := 1) rfl
  have c2 := hX2H.out.at' (i := 2) rfl
  refine (hSpH.out _ hB2H.out).mono ?_
  rintro e W3 ⟨rfl, ⟨hpl, hpm, hpr⟩, hS, hT⟩
  have hX3H := Lib.hid (hX2H.out.turn hT hFb2)
  have hT3H := Lib.hid ((Turn.below (F := F) hB2H.out).trans hT)
  clear hSpH c0 c1 c2 hX2H hB2H
  have hS3H := Lib.hid hS
  clear hS hT
  go_wp2
  refine bodyPost_ret (v := .tuple #[.int .u64 (pl : Nat), .int .u64 (pm : Nat), .int .u64 (pr : Nat), .int .i64 0]) (by simp [results, Tryz.f37, go_sem]) rfl ?_
  exact ⟨rfl, hS3H.out, hT3H.out⟩
set_option maxHeartbeats 4000000 in
set_option maxRecDepth 100000 in
theorem paConcatT_at (h : StoreIs w s F R H P q most last G) (hsh : Short R) (rd : Bool) {x y : Nat} (hx : x < 18446744073709551616) (hy : y < 18446744073709551616) (hi0 : isR R x = true) (hi1 : isR R y = true) :
    Calls Tryz.prog 39 #[.pointer (some ⟨s, 0, none⟩), .int .i64 (kindZ rd), .int .u64 (x : Nat), .int .u64 (y : Nat)] w fun e w' => e = .returned (.tuple #[.int .u64 ((cutC rd R x y).2 : Nat), .int .i64 0]) ∧ StoreIs w' s F (cutC rd R x y).1 H P q most last G ∧ Turn w F w' F := by
  obtain ⟨n, hrd, _⟩ := h.rd
  obtain ⟨W0, hW0⟩ : ∃ W, W = w.alloc (Obj.cells #[.int .u64 (x : Nat), .int .u64 (y : Nat)] 32) := ⟨_, rfl⟩
  have hX0 : Box W0 w.heap.size 32 [.int .u64 (x : Nat), .int .u64 (y : Nat)] := by rw [hW0]; exact Box.new w 32 [.int .u64 (x : Nat), .int .u64 (y : Nat)]
  have hb0 : Below w.heap.size w W0 := by rw [hW0]; exact (Below.refl _ w).alloc (Nat.le_refl _) _
  have hAt : HsAt W0 (some ⟨w.heap.size, 0, none⟩) [x, y] := fun i hi => ⟨w.heap.size, rfl, by
    have := hX0.at' (i := i) (v := .int .u64 (([x, y] : List Nat)[i] : Nat)) (by
      have hc : i = 0 ∨ i = 1 := by simp at hi; omega
      rcases hc with rfl | rfl <;> rfl)
    exact this⟩
  have hAsk : Calls Tryz.prog 70 #[.pointer (some ⟨s, 0, none⟩), .int .i64 (kindZ rd), .string ⟨#[]⟩, .slice (some ⟨w.heap.size, 0, none⟩) 2 2] W0 _ := paAsk_ok (hrd.below hb0) rd ⟨#[]⟩ (by decide) (some ⟨w.heap.size, 0, none⟩) 2 [x, y] (by simp) hAt (by simp; omega) (by simp; exact ⟨hi0, hi1⟩)
  have hFl := Lib.hid (fun b (hf : F b) => h.lt hf)
  have hHs := Lib.hid h
  have hAskH := Lib.hid hAsk
  have hb0H := Lib.hid hb0
  have hW0H := Lib.hid hW0
  unfold cutV at hAskH
  clear hX0 hAt hAsk hb0 hW0 hi0 hi1
  have hC := fun W (hb : Below w.heap.size w W) => paConcat_at (hHs.out.below hb) hsh rd hx hy
  unfold cutV at hC
  generalize cutC rd R x y = p at *
  obtain ⟨Ra, z⟩ := p
  dsimp only at hC ⊢
  have hCH := Lib.hid hC
  clear hC
  go_enter Tryz.func39, Tryz.ntmps39
  go_wp2_with fail
  rw [← hW0H.out]
  refine hAskH.out.mono ?_
  rintro e W1 ⟨rfl, hb⟩
  have hB1H := Lib.hid (hb0H.out.trans (hb.mono hb0H.out.size))
  have hz1 := hB1H.out.size
  clear hb hAskH hW0H hb0H
  go_wp2_with fail
  obtain ⟨W2, hW2⟩ : ∃ W, W = W1.alloc (Obj.cells #[.pointer (some ⟨s, 0, none⟩), .func (.func (jnF rd)) #[] #[], .func (.func (ckF rd)) #[] #[]] 124) := ⟨_, rfl⟩
  obtain ⟨b2, hb2e⟩ : ∃ b, b = W1.heap.size := ⟨_, rfl⟩
  have hX2H : Hid (Box W2 b2 124 [.pointer (some ⟨s, 0, none⟩), .func (.func (jnF rd)) #[] #[], .func (.func (ckF rd)) #[] #[]]) := Lib.hid (by rw [hW2, hb2e]; exact Box.new W1 124 [.pointer (some ⟨s, 0, none⟩), .func (.func (jnF rd)) #[] #[], .func (.func (ckF rd)) #[] #[]])
  have hB2H : Hid (Below w.heap.size w W2) := Lib.hid (by rw [hW2]; exact hB1H.out.alloc hz1 _)
  have hFb2 : ¬ F b2 := fun hf => by have := hFl.out b2 hf; omega
  rw [← hW2, ← hb2e]
  clear hW2 hb2e hB1H hz1
  refine (hCH.out _ hB2H.out).mono ?_
  rintro e W3 ⟨rfl, hz, hS, hT⟩
  have hS3H := Lib.hid hS
  have hT3H := Lib.hid ((Turn.below (F := F) hB2H.out).trans hT)
  clear hS hT hCH
  go_wp2
  refine bodyPost_ret (v := .tuple #[.int .u64 (z : Nat), .int .i64 0]) (by simp [results, Tryz.f39, go_sem]) rfl ?_
  exact ⟨rfl, hS3H.out, hT3H.out⟩
set_option maxHeartbeats 4000000 in
set_option maxRecDepth 100000 in
theorem paDeleteT_at (h : StoreIs w s F R H P q most last G) (hsh : Short R) (rd : Bool) {x : Nat} (hx : x < 18446744073709551616) (key : ByteArray) (hk : key.size ≤ 1000) (hi0 : isR R x = true) :
    Calls Tryz.prog 40 #[.pointer (some ⟨s, 0, none⟩), .int .i64 (kindZ rd), .int .u64 (x : Nat), .string key] w fun e w' => e = .returned (.tuple #[.int .u64 ((delP rd key R x).2.1 : Nat), .int .u64 ((delP rd key R x).2.2 : Nat), .int .i64 0]) ∧ StoreIs w' s F (delP rd key R x).1 H P q most last G ∧ Turn w F w' F := by
  obtain ⟨n, hrd, _⟩ := h.rd
  obtain ⟨W0, hW0⟩ : ∃ W, W = w.alloc (Obj.cells #[.int .u64 (x : Nat)] 32) := ⟨_, rfl⟩
  have hX0 : Box W0 w.heap.size 32 [.int .u64 (x : Nat)] := by rw [hW0]; exact Box.new w 32 [.int .u64 (x : Nat)]
  have hb0 : Below w.heap.size w W0 := by rw [hW0]; exact (Below.refl _ w).alloc (Nat.le_refl _) _
  have hAt : HsAt W0 (some ⟨w.heap.size, 0, none⟩) [x] := fun i hi => ⟨w.heap.size, rfl, by
    have := hX0.at' (i := i) (v := .int .u64 (([x] : List Nat)[i] : Nat)) (by
      obtain rfl : i = 0 := by simp at hi; omega
      rfl)
    exact this⟩
  have hAsk : Calls Tryz.prog 70 #[.pointer (some ⟨s, 0, none⟩), .int .i64 (kindZ rd), .string key, .slice (some ⟨w.heap.size, 0, none⟩) 1 1] W0 _ := paAsk_ok (hrd.below hb0) rd key hk (some ⟨w.heap.size, 0, none⟩) 1 [x] (by simp) hAt (by simp; omega) (by simp; exact hi0)
  have hFl := Lib.hid (fun b (hf : F b) => h.lt hf)
  have hHs := Lib.hid h
  have hAskH := Lib.hid hAsk
  have hb0H := Lib.hid hb0
  have hW0H := Lib.hid hW0
  unfold cutV at hAskH
  clear hX0 hAt hAsk hb0 hW0 hi0
  unfold delP
  have hSp : ∀ W, Below w.heap.size w W → Calls Tryz.prog 72 #[cutV s rd, .int .u64 (x : Nat), .string key, .int .i64 0] W _ := fun W hb => paSplit_at rd key 200 W R x (Nat.le_refl _) hx hsh (hHs.out.below hb)
  unfold cutV at hSp
  have hkeep := cutS_keeps rd key 200 R x
  generalize cutS rd key 200 R x = p at *
  obtain ⟨Ra, pl, pm, pr⟩ := p
  dsimp only at hSp hkeep ⊢
  have hSpH := Lib.hid hSp
  have hsha := hkeep.short hsh
  clear hSp hkeep
  have hC := fun W (hS : StoreIs W s F Ra H P q most last G) (h1 : pl < 18446744073709551616) (h2 : pr < 18446744073709551616) => paConcat_at hS hsha rd h1 h2
  unfold cutV at hC
  generalize cutC rd Ra pl pr = pc at *
  obtain ⟨Rb, z⟩ := pc
  dsimp only at hC ⊢
  have hCH := Lib.hid hC
  clear hC
  go_enter Tryz.func40, Tryz.ntmps40
  go_wp2_with fail
  rw [← hW0H.out]
  refine hAskH.out.mono ?_
  rintro e W1 ⟨rfl, hb⟩
  have hB1H := Lib.hid (hb0H.out.trans (hb.mono hb0H.out.size))
  have hz1 := hB1H.out.size
  clear hb hAskH hW0H hb0H
  go_wp2_with fail
  obtain ⟨W2, hW2⟩ : ∃ W, W = W1.alloc (Obj.cells #[.pointer (some ⟨s, 0, none⟩), .func (.func (jnF rd)) #[] #[], .func (.func (ckF rd)) #[] #[]] 124) := ⟨_, rfl⟩
  obtain ⟨b2, hb2e⟩ : ∃ b, b = W1.heap.size := ⟨_, rfl⟩
  have hX2H : Hid (Box W2 b2 124 [.pointer (some ⟨s, 0, none⟩), .func (.func (jnF rd)) #[] #[], .func (.func (ckF rd)) #[] #[]]) := Lib.hid (by rw [hW2, hb2e]; exact Box.new W1 124 [.pointer (some ⟨s, 0, none⟩), .func (.func (jnF rd)) #[] #[], .func (.func (ckF rd)) #[] #[]])
  have hB2H : Hid (Below w.heap.size w W2) := Lib.hid (by rw [hW2]; exact hB1H.out.alloc hz1 _)
  have hFb2 : ¬ F b2 := fun hf => by have := hFl.out b2 hf; omega
  rw [← hW2, ← hb2e]
  clear hW2 hb2e hB1H hz1
  have c0 := hX2H.out.at' (i := 0) rfl
  have c1 := hX2H.out.at' (i := 1) rfl
  have c2 := hX2H.out.at' (i := 2) rfl
  refine (hSpH.out _ hB2H.out).mono ?_
  rintro e W3 ⟨rfl, ⟨hpl, hpm, hpr⟩, hS, hT⟩
  have hX3H := Lib.hid (hX2H.out.turn hT hFb2)
  have hT3H := Lib.hid ((Turn.below (F := F) hB2H.out).trans hT)
  clear hSpH c0 c1 c2 hX2H hB2H
  have hC2 := Lib.hid (hCH.out _ hS hpl hpr)
  clear hS hT hCH
  have c0 := hX3H.out.at' (i := 0) rfl
  have c1 := hX3H.out.at' (i := 1) rfl
  have c2 := hX3H.out.at' (i := 2) rfl
  go_wp2_with fail
  refine hC2.out.mono ?_
  rintro e W4 ⟨rfl, hz, hS, hT⟩
  have hS4H := Lib.hid hS
  have hT4H := Lib.hid (hT3H.out.trans hT)
  clear hS hT hC2 c0 c1 c2 hX3H
  go_wp2
  refine bodyPost_ret (v := .tuple #[.int .u64 (z : Nat), .int .u64 (pm : Nat), .int .i64 0]) (by simp [results, Tryz.f40, go_sem]) rfl ?_
  exact ⟨rfl, hS4H.out, hT4H.out⟩
set_option maxHeartbeats 4000000 in
set_option maxRecDepth 100000 in
theorem paInsertT_at (h : StoreIs w s F R H P q most last G) (hsh : Short R) (rd : Bool) {x m : Nat} (hx : x < 18446744073709551616) (hm : m < 18446744073709551616) (hm0 : m ≠ 0) (hi0 : isR R x = true) (hi1 : isR R m = true) (key : ByteArray) (hkey : blobR R (nodeG R m).key = some key) (hkE : blobE R (nodeG R m).key = 0) :
    Calls Tryz.prog 34 #[.pointer (some ⟨s, 0, none⟩), .int .i64 (kindZ rd), .int .u64 (x : Nat), .int .u64 (m : Nat)] w fun e w' => e = .returned (.tuple #[.int .u64 ((insP rd key R x m).2.1 : Nat), .int .u64 ((insP rd key R x m).2.2 : Nat), .int .i64 0]) ∧ StoreIs w' s F (insP rd key R x m).1 H P q most last G ∧ Turn w F w' F := by
  obtain ⟨n, hrd, _⟩ := h.rd
  obtain ⟨W0, hW0⟩ : ∃ W, W = w.alloc (Obj.cells #[.int .u64 (x : Nat), .int .u64 (m : Nat)] 32) := ⟨_, rfl⟩
  have hX0 : Box W0 w.heap.size 32 [.int .u64 (x : Nat), .int .u64 (m : Nat)] := by rw [hW0]; exact Box.new w 32 [.int .u64 (x : Nat), .int .u64 (m : Nat)]
  have hb0 : Below w.heap.size w W0 := by rw [hW0]; exact (Below.refl _ w).alloc (Nat.le_refl _) _
  have hAt : HsAt W0 (some ⟨w.heap.size, 0, none⟩) [x, m] := fun i hi => ⟨w.heap.size, rfl, by
    have := hX0.at' (i := i) (v := .int .u64 (([x, m] : List Nat)[i] : Nat)) (by
      have hc : i = 0 ∨ i = 1 := by simp at hi; omega
      rcases hc with rfl | rfl <;> rfl)
    exact this⟩
  have hAsk : Calls Tryz.prog 70 #[.pointer (some ⟨s, 0, none⟩), .int .i64 (kindZ rd), .string ⟨#[]⟩, .slice (some ⟨w.heap.size, 0, none⟩) 2 2] W0 _ := paAsk_ok (hrd.below hb0) rd ⟨#[]⟩ (by decide) (some ⟨w.heap.size, 0, none⟩) 2 [x, m] (by simp) hAt (by simp; omega) (by simp; exact ⟨hi0, hi1⟩)
  have hFl := Lib.hid (fun b (hf : F b) => h.lt hf)
  have hHs := Lib.hid h
  have hAskH := Lib.hid hAsk
  have hb0H := Lib.hid hb0
  have hW0H := Lib.hid hW0
  unfold cutV at hAskH
  clear hX0 hAt hAsk hb0 hW0 hi0 hi1
  unfold insP
  have dm : ((m : Int) == 0) = false := by simp; omega
  obtain ⟨nd, hnd⟩ : ∃ nd, nodeG R m = nd := ⟨_, rfl⟩
  obtain ⟨z, hz⟩ : ∃ z, nodeE R m = z := ⟨_, rfl⟩
  rw [hnd] at hkey hkE
  have hok := hnd ▸ hrd.nodeG m
  have hGt := Lib.hid (fun W (hb : Below w.heap.size w W) => nget_lit (hrd.below hb) m hm nd hnd z hz)
  have hBg := Lib.hid (fun W (hb : Below w.heap.size w W) => by have := bget_at (hrd.below hb) hsh nd.key hok.key; unfold blobV at this; rw [hkey, hkE, Option.getD_some] at this; exact this)
  clear hnd hz hkey hkE hok hrd
  have hSp : ∀ W, Below w.heap.size w W → Calls Tryz.prog 72 #[cutV s rd, .int .u64 (x : Nat), .string key, .int .i64 0] W _ := fun W hb => paSplit_at rd key 200 W R x (Nat.le_refl _) hx hsh (hHs.out.below hb)
  unfold cutV at hSp
  have hkeep := cutS_keeps rd key 200 R x
  generalize cutS rd key 200 R x = p at *
  obtain ⟨Ra, pl, pm, pr⟩ := p
  dsimp only at hSp hkeep ⊢
  have hSpH := Lib.hid hSp
  have hsha := hkeep.short hsh
  clear hSp hkeep
  have hC := fun W (hS : StoreIs W s F Ra H P q most last G) (h1 : pl < 18446744073709551616) (h2 : pr < 18446744073709551616) => paJoin_at hS rd h1 hm h2
  unfold cutV at hC
  generalize cutJ rd Ra pl m pr = pc at *
  obtain ⟨Rb, y⟩ := pc
  dsimp only at hC ⊢
  have hCH := Lib.hid hC
  clear hC
  go_enter Tryz.func34, Tryz.ntmps34
  go_wp2_with fail
  rw [← hW0H.out]
  refine hAskH.out.mono ?_
  rintro e W1 ⟨rfl, hb⟩
  have hB1H := Lib.hid (hb0H.out.trans (hb.mono hb0H.out.size))
  have hz1 := hB1H.out.size
  clear hb hAskH hW0H hb0H
  go_wp2_with fail
  obtain ⟨W2, hW2⟩ : ∃ W, W = W1.alloc (Obj.cells #[.pointer (some ⟨s, 0, none⟩), .func (.func (jnF rd)) #[] #[], .func (.func (ckF rd)) #[] #[]] 124) := ⟨_, rfl⟩
  obtain ⟨b2, hb2e⟩ : ∃ b, b = W1.heap.size := ⟨_, rfl⟩
  have hX2H : Hid (Box W2 b2 124 [.pointer (some ⟨s, 0, none⟩), .func (.func (jnF rd)) #[] #[], .func (.func (ckF rd)) #[] #[]]) := Lib.hid (by rw [hW2, hb2e]; exact Box.new W1 124 [.pointer (some ⟨s, 0, none⟩), .func (.func (jnF rd)) #[] #[], .func (.func (ckF rd)) #[] #[]])
  have hB2H : Hid (Below w.heap.size w W2) := Lib.hid (by rw [hW2]; exact hB1H.out.alloc hz1 _)
  have hFb2 : ¬ F b2 := fun hf => by have := hFl.out b2 hf; omega
  rw [← hW2, ← hb2e]
  clear hW2 hb2e hB1H hz1
  refine (hGt.out _ hB2H.out).mono ?_
  rintro e W3 ⟨rfl, hb⟩
  have hB3H := Lib.hid (hB2H.out.trans (hb.mono hB2H.out.size))
  have hX3H := Lib.hid (hX2H.out.below hb)
  have hz3 := hB3H.out.size
  clear hb hGt hB2H hX2H
  go_wp2_with fail
  obtain ⟨W4, hW4⟩ : ∃ W, W = W3.alloc (Obj.cells #[.int .u64 (nd.key : Nat), .int .u64 (nd.val : Nat), .int .u64 (nd.left : Nat), .int .u64 (nd.right : Nat), .int .u64 (nd.mark : Nat), .int .u64 (nd.size : Nat)] 53) := ⟨_, rfl⟩
  obtain ⟨b4, hb4e⟩ : ∃ b, b = W3.heap.size := ⟨_, rfl⟩
  have hX4H : Hid (Box W4 b2 124 [.pointer (some ⟨s, 0, none⟩), .func (.func (jnF rd)) #[] #[], .func (.func (ckF rd)) #[] #[]]) := Lib.hid (by rw [hW4]; exact hX3H.out.alloc _)
  have hB4H : Hid (Below w.heap.size w W4) := Lib.hid (by rw [hW4]; exact hB3H.out.alloc hz3 _)
  rw [← hW4]
  clear hX3H hB3H hz3
  refine (hBg.out _ hB4H.out).mono ?_
  rintro e W5 ⟨rfl, hb⟩
  have hB5H := Lib.hid (hB4H.out.trans (hb.mono hB4H.out.size))
  have hX5H := Lib.hid (hX4H.out.below hb)
  clear hb hBg hB4H hX4H hW4 hb4e
  have c0 := hX5H.out.at' (i := 0) rfl
  have c1 := hX5H.out.at' (i := 1) rfl
  have c2 := hX5H.out.at' (i := 2) rfl
  go_wp2_with fail
  clear c0 c1 c2
  have c0 := hX5H.out.at' (i := 0) rfl
  have c1 := hX5H.out.at' (i := 1) rfl
  have c2 := hX5H.out.at' (i := 2) rfl
  refine (hSpH.out _ hB5H.out).mono ?_
  rintro e W6 ⟨rfl, ⟨hpl, hpm, hpr⟩, hS, hT⟩
  have hX6H := Lib.hid (hX5H.out.turn hT hFb2)
  have hT6H := Lib.hid ((Turn.below (F := F) hB5H.out).trans hT)
  clear hSpH c0 c1 c2 hX5H hB5H
  have hC2 := Lib.hid (hCH.out _ hS hpl hpr)
  clear hS hT hCH
  have c0 := hX6H.out.at' (i := 0) rfl
  have c1 := hX6H.out.at' (i := 1) rfl
  have c2 := hX6H.out.at' (i := 2) rfl
  go_wp2_with fail
  refine hC2.out.mono ?_
  rintro e W7 ⟨rfl, hy, hS, hT⟩
  have hS7H := Lib.hid hS
  have hT7H := Lib.hid (hT6H.out.trans hT)
  clear hS hT hC2 c0 c1 c2 hX6H
  go_wp2
  refine bodyPost_ret (v := .tuple #[.int .u64 (y : Nat), .int .u64 (pm : Nat), .int .i64 0]) (by simp [results, Tryz.f34, go_sem]) rfl ?_
  exact ⟨rfl, hS7H.out, hT7H.out⟩
end
end Go.Proofs.YtjpmlneihbckpaaGreatDoor
/- loftref11.Find. -/
set_option linter.unusedVariables false
set_option linter.unusedSimpArgs false
namespace Go.Proofs.YtjpmlneihbckpaaGreatDoor
open Go.RowKit Go.Shelf
/-- what loftref11.Find answers -/
def findL (l : List Pr) (k : ByteArray) : Int := if (l[rankL l k]?).map (·.1) = some k then ((rankL l k : Nat) : Int) else -1
theorem findL_lt {l : List Pr} {k : ByteArray} (h : rankL l k < l.length) : findL l k = if (l[rankL l k]'h).1 = k then ((rankL l k : Nat) : Int) else -1 := by
  unfold findL
  simp only [List.getElem?_eq_getElem h, Option.map_some, Option.some.injEq]
theorem findL_ge {l : List Pr} {k : ByteArray} (h : ¬ rankL l k < l.length) : findL l k = -1 := by
  unfold findL
  simp only [List.getElem?_eq_none (Nat.le_of_not_lt h), Option.map_none, reduceCtorEq, if_false]
set_option maxRecDepth 100000 in
theorem refFind_at {w : World} {B c : Nat} {A : Option Addr} {l : List Pr} (h : Prs w B A l) (hB : B ≤ w.heap.size) (hl : l.length ≤ 4398046511104) (hs : Sized l) (key : ByteArray) (hk : key.size ≤ 9223372036854775807) :
    Calls Tryz.prog 43 #[.slice A l.length c, .string key] w fun e w' => e = .returned (.int .i64 (findL l key)) ∧ Below w.heap.size w w' := by
  have hR := Lib.hid (refRank_at (c := c) h hB hl hs key hk)
  have hle := rankL_le l key
  have hv1 := Lib.hid (fun h => findL_lt (l := l) (k := key) h)
  have hv2 := Lib.hid (fun h => findL_ge (l := l) (k := key) h)
  have hH := Lib.hid h
  generalize rankL l key = n at *
  by_cases hlt : n < l.length
  · have hsb := str_beq l[n].1 key
    have hv := Lib.hid (hv1.out hlt)
    have hd : decide ((n : Int) < (l.length : Int)) = true := by simp; omega
    obtain ⟨p, hp⟩ : ∃ p, l[n] = p := ⟨_, rfl⟩
    have hcH := Lib.hid (fun W (hb : Below w.heap.size w W) => by have := (hH.out.below (hb.mono hB)).at' hlt; rw [hp] at this; exact this)
    rw [hp] at hsb hv
    clear hp
    by_cases hpk : p.1 = key
    · have hq : (p.1.toList == key.toList) = true := by rw [hsb]; exact decide_eq_true hpk
      rw [if_pos hpk] at hv
      clear hsb hpk h hs
      go_enter Tryz.func43, Tryz.ntmps43
      go_wp2_with fail
      refine hR.out.mono ?_
      rintro e w1 ⟨rfl, hb1⟩
      obtain ⟨b, o, rfl, _, c1, _⟩ := hcH.out w1 hb1
      have hb1H := Lib.hid hb1
      clear hb1
      go_wp2
      go_ret
      exact ⟨by rw [hv.out]; rfl, hb1H.out⟩
    · have hq : (p.1.toList == key.toList) = false := by rw [hsb]; exact decide_eq_false hpk
      rw [if_neg hpk] at hv
      clear hsb hpk h hs
      go_enter Tryz.func43, Tryz.ntmps43
      go_wp2_with fail
      refine hR.out.mono ?_
      rintro e w1 ⟨rfl, hb1⟩
      obtain ⟨b, o, rfl, _, c1, _⟩ := hcH.out w1 hb1
      have hb1H := Lib.hid hb1
      clear hb1
      go_wp2
      go_ret
      exact ⟨by rw [hv.out]; rfl, hb1H.out⟩
  · have hd : decide (n < l.length) = false := by simp; omega
    have hv := Lib.hid (hv2.out hlt)
    clear h hs hlt
    go_enter Tryz.func43, Tryz.ntmps43
    go_wp2_with fail
    refine hR.out.mono ?_
    rintro e w1 ⟨rfl, hb1⟩
    have hb1H := Lib.hid hb1
    clear hb1
    go_wp2
    go_ret
    exact ⟨by rw [hv.out]; rfl, hb1H.out⟩
end Go.Proofs.YtjpmlneihbckpaaGreatDoor
/- loftref11: Cut, and Same of two lists that are the same. -/
set_option linter.unusedVariables false
set_option linter.unusedSimpArgs false
namespace Go.Proofs.YtjpmlneihbckpaaGreatDoor
open Go.RowKit Go.Shelf
/-- without the places from one to another one -/
def cutLn (l : List Pr) (i j : Nat) : List Pr := l.take i ++ l.drop j
set_option maxHeartbeats 2000000 in
set_option maxRecDepth 100000 in
theorem refCut_at {w : World} {B c : Nat} {A : Option Addr} {l : List Pr} (h : Prs w B A l) (hB : B ≤ w.heap.size) (hA : A = none → c = 0) (hc : l.length ≤ c) (hl : l.length ≤ 2000000000000) (i j : Nat) (hi : i ≤ l.length) (hj : j ≤ l.length) :
    Calls Tryz.prog 45 #[.slice A l.length c, .int .i64 (i : Nat), .int .i64 (j : Nat)] w fun e w' => ∃ v, e = .returned v ∧ w'.ownsRow w.heap.size 46 2 v (cutLn l i j).length (prsV (cutLn l i j)) ∧ Below w.heap.size w w' := by
  obtain ⟨A', sl1, sl2, hdr, hA'⟩ := slice_from A l.length j c hj hc
  have hdrH := Lib.hid hdr
  have hA'H := Lib.hid (hA' hA)
  have hAH := Lib.hid hA
  have htlH : Hid (i = (l.take i).length) := Lib.hid (by rw [List.length_take]; omega)
  have hdl : Hid (l.length - j = (l.drop j).length) := Lib.hid (by rw [List.length_drop])
  have hown0 := Lib.hid (own_empty w 46)
  have hP1 := Lib.hid (h.more hB)
  have hl2 : (l.take i).length ≤ l.length := by rw [List.length_take]; omega
  have hl3 : (l.drop j).length ≤ l.length := by rw [List.length_drop]; omega
  clear h hdr hA' hA
  go_enter Tryz.func45, Tryz.ntmps45
  go_wp2_with (at_builtin; go_must (refine app_prs rfl (.tmp 8) (.tmp 11) rfl _ w.heap.size _ [] rfl hown0.out w.heap.size A i c (l.take i) rfl htlH.out ((hP1.out.below ((Below.refl _ w).alloc (Nat.le_refl _) _)).take i) hAH.out (by simp; omega) (by simp) ?_))
  intro v2 w2 hown2 hg2 _
  have hb2 := Lib.hid (own_below ((Below.refl _ w).alloc (Nat.le_refl _) _) hown0.out hg2 (by simp))
  have hown2' : w2.ownsRow w.heap.size 46 2 v2 (l.take i).length (prsV (l.take i)) := by first | exact hown2 | (rw [← htlH.out]; exact hown2) | simpa using hown2
  have hown2H := Lib.hid hown2'
  clear hown2 hown2' hg2 hown0
  go_wp2_with (at_builtin; go_must (refine app_prs rfl (.tmp 13) (.tmp 16) rfl _ w.heap.size _ (l.take i) rfl hown2H.out w.heap.size A' _ _ (l.drop j) rfl hdl.out (hdrH.out w2 w.heap.size l rfl (hP1.out.below hb2.out)) hA'H.out (by omega) hb2.out.size ?_))
  intro v4 w4 hown4 hg4 _
  have hb4 := Lib.hid (own_below hb2.out hown2H.out hg4 hb2.out.size)
  have hown4' : w4.ownsRow w.heap.size 46 2 v4 (cutLn l i j).length (prsV (cutLn l i j)) := by unfold cutLn; first | exact hown4 | simpa [Nat.min_eq_left hi] using hown4
  have hfin := Lib.hid hown4'
  clear hown4 hown4' hg4
  go_wp2
  go_ret
  exact ⟨v4, rfl, hfin.out, hb4.out⟩
set_option maxHeartbeats 2000000 in
set_option maxRecDepth 100000 in
theorem refSame_eq {w : World} {F F' : Nat → Prop} {c c' : Nat} {A A' : Option Addr} {l : List Pr} (h : CellsF w F A (prsV l)) (h' : CellsF w F' A' (prsV l)) (hl : l.length ≤ 4398046511104) :
    Calls Tryz.prog 75 #[.slice A l.length c, .slice A' l.length c'] w fun e w' => e = .returned (.bool true) ∧ Below w.heap.size w w' := by
  have hcf := Lib.hid h
  have hcf' := Lib.hid h'
  clear h h'
  go_enter Tryz.func75, Tryz.ntmps75
  go_wp2_with fail
  go_loopw [5] (fun iv wr => ∃ k : Nat, k ≤ l.length ∧ iv = .int .i64 k ∧ Hid (Below w.heap.size w wr)) (fun iv _ => l.length - (intOf iv).toNat)
  case atStart => exact ⟨0, by omega, rfl, Lib.hid (Below.refl _ _)⟩
  case round =>
    obtain ⟨k, hk, rfl, hb⟩ := hrel
    by_cases hlt : k < l.length
    · obtain ⟨b, o, hAs, q1, q2⟩ := (hcf.out.turn (Turn.below hb.out)).pairs hlt
      obtain ⟨b', o', hAs', q3, q4⟩ := (hcf'.out.turn (Turn.below hb.out)).pairs hlt
      subst hAs hAs'
      generalize l[k] = p at *
      go_wp2
      go_quiet (fail)
      go_wp2
      go_roundw
      case rel => exact ⟨k + 1, by omega, by go_num, Lib.hid (hb.out.trans ((Tx.drewN_below _ _).mono hb.out.size))⟩
      case measure => simp [intOf]; omega
    · obtain rfl : k = l.length := by omega
      go_wp2
      go_ret
      exact ⟨rfl, hb.out⟩
end Go.Proofs.YtjpmlneihbckpaaGreatDoor
/- Parts: what Insert and Delete make of right trees, in the document's words: plain law. -/
set_option linter.unusedVariables false
set_option linter.unusedSimpArgs false
namespace Go.Proofs.YtjpmlneihbckpaaGreatDoor
open Go.RowKit Go.Shelf
theorem rankL_allP {k : ByteArray} : ∀ {l : List Pr}, (∀ p ∈ l, Tx.cmp p.1 k < 0) → rankL l k = l.length
  | [], _ => rfl
  | p :: l, h => by
    rw [rankL_cons, if_pos (h p (by simp)), rankL_allP (fun q hq => h q (by simp [hq]))]
    rfl
/-- a list that is parted at a key -/
structure Parted (l : List Pr) (k : ByteArray) (a b c : List Pr) : Prop where
  app : a ++ (b ++ c) = l
  low : ∀ p ∈ a, Tx.cmp p.1 k < 0
  ky : ∀ p ∈ b, p.1 = k
  one : b.length ≤ 1
  high : ∀ p ∈ c, Tx.cmp k p.1 < 0
theorem Parted.rank {l a b c : List Pr} {k : ByteArray} (h : Parted l k a b c) : rankL l k = a.length := by
  rw [← h.app, rankL_append, rankL_allP h.low, rankL_none]
  · rfl
  · intro p hp
    rcases List.mem_append.1 hp with h1 | h1
    · rw [h.ky p h1, (cmp_zero.2 rfl : Tx.cmp k k = 0)]; omega
    · have h2 := h.high p h1
      have h3 := cmp_swap p.1 k
      omega
theorem Parted.at' {l a b c : List Pr} {k : ByteArray} (h : Parted l k a b c) : l[rankL l k]? = (b ++ c)[0]? := by
  rw [h.rank, ← h.app, List.getElem?_append_right (Nat.le_refl _), Nat.sub_self]
theorem Parted.has {l a b c : List Pr} {k : ByteArray} (h : Parted l k a b c) : (l[rankL l k]?).map (·.1) = some k ↔ b.length = 1 := by
  rw [h.at']
  have h1 := h.one
  constructor
  · intro hk
    cases b with
    | cons p b => simp at h1; simp [h1]
    | nil =>
      cases c with
      | nil => simp at hk
      | cons p c =>
        simp at hk
        have := h.high p (by simp)
        rw [hk, (cmp_zero.2 rfl : Tx.cmp k k = 0)] at this
        omega
  · intro hb
    cases b with
    | nil => simp at hb
    | cons p b =>
      have := h.ky p (by simp)
      simp [this]
theorem Parted.put {l a b c : List Pr} {k v : ByteArray} (h : Parted l k a b c) : putL l (k, v) = a ++ (k, v) :: c := by
  unfold putL
  have hr := h.rank
  have hh := h.has
  have h1 := h.one
  by_cases hb : b.length = 1
  · rw [if_pos (hh.2 hb), hr, ← h.app, List.take_left, ← List.append_assoc, show a.length + 1 = (a ++ b).length by rw [List.length_append, hb], List.drop_left]
  · rw [if_neg (fun e => hb (hh.1 e)), hr, ← h.app, List.take_left, List.drop_left]
    have : b = [] := List.eq_nil_of_length_eq_zero (by omega)
    rw [this]
    rfl
theorem Parted.find {l a b c : List Pr} {k : ByteArray} (h : Parted l k a b c) : findL l k = if b.length = 1 then (a.length : Int) else -1 := by
  unfold findL
  by_cases hb : b.length = 1
  · rw [if_pos (h.has.2 hb), if_pos hb, h.rank]
  · rw [if_neg (fun e => hb (h.has.1 e)), if_neg hb]
theorem Parted.cut {l a b c : List Pr} {k : ByteArray} (h : Parted l k a b c) : cutLn l (rankL l k) (a.length + b.length) = a ++ c := by
  unfold cutLn
  rw [h.rank, ← h.app, List.take_left, ← List.append_assoc, ← List.length_append, List.drop_left]
namespace Ln
theorem prs_len : ∀ (m : Ln), m.prs.length ≤ 1
  | none => by decide
  | one _ _ _ _ _ => Nat.le_refl _
theorem root_ne {R : Nat → Option (List Nat)} : ∀ {m : Ln}, m.At R → (m.root ≠ 0 ↔ m.prs.length = 1)
  | none, _ => by simp [root, prs]
  | one x _ _ _ _, h => ⟨fun _ => rfl, fun _ => h.nz⟩
theorem hs_len : ∀ (m : Ln), m.hs.length = 3 * m.prs.length
  | none => rfl
  | one _ _ _ _ _ => rfl
end Ln
section
variable {rd : Bool} {R R' : Nat → Option (List Nat)} {key : ByteArray} {t l r : BT} {m : Ln}
theorem CutOut.parted (o : CutOut rd R R' key t l m r) (hr : Rising t.prs) : Parted t.prs key l.prs m.prs r.prs := ⟨o.prs, o.low hr, o.ky, m.prs_len, o.high hr⟩
/-- a tree, and a node alone, that lie apart -/
structure InsOut (rd : Bool) (R R' : Nat → Option (List Nat)) (hs : List Nat) (nodes : List Nat) (ps : List Pr) (t' : BT) (old : Ln) : Prop where
  at' : t'.At R'
  oat : old.At R'
  kd : BT.Kd rd t'
  hs : (t'.hs ++ old.hs).Perm hs
  prs : t'.prs = ps
  frame : ∀ z, z ∉ nodes → R' z = R z
theorem ins_bt {x kx vx : Nat} {k v : ByteArray} (h0 : R 0 = none) (ht : t.At R) (hk : BT.Kd rd t) (hm : BT.Lo R x kx vx k v) (hn : (t.hs ++ [x, kx, vx]).Nodup) (sz : t.size ≤ 99) (hr : Rising t.prs) :
    ∃ (t' : BT) (old : Ln) (R' : Nat → Option (List Nat)), insP rd k R t.root x = (R', t'.root, old.root) ∧ InsOut rd R R' (t.hs ++ [x, kx, vx]) (t.nodes ++ [x]) (putL t.prs (k, v)) t' old ∧ (old.root ≠ 0 ↔ 0 ≤ findL t.prs k) := by
  have hh := BT.hgt_le t
  obtain ⟨n1, n2, n3⟩ := List.nodup_append.1 hn
  simp only [List.nodup_cons, List.mem_cons, List.not_mem_nil, or_false, not_or, not_false_eq_true, List.nodup_nil, and_true] at n2
  obtain ⟨l', m', r', R1, g1, o⟩ := cutS_bt (rd := rd) k 200 t R h0 ht hk n1 (by omega) (by omega)
  have hpt := o.parted hr
  have hpr := o.hs
  have fr : ∀ z, z ∉ t.hs → R1 z = R z := fun z hz => o.frame z (fun h => hz (BT.nodes_hs t z h))
  have sub : ∀ z, z ∈ l'.hs ∨ z ∈ m'.hs ∨ z ∈ r'.hs → z ∈ t.hs := fun z hz => by
    rw [← hpr]; simp only [List.mem_append]; exact hz
  have hx : x ∉ t.hs := fun h => n3 x h x (by simp) rfl
  have hkx : kx ∉ t.hs := fun h => n3 kx h kx (by simp) rfl
  have hvx : vx ∉ t.hs := fun h => n3 vx h vx (by simp) rfl
  have h01 : R1 0 = none := (o.frame 0 (BT.nodes_zero h0 ht)).trans h0
  have hlo1 : BT.Lo R1 x kx vx k v := hm.congr (fr x hx) (fr kx hkx) (fr vx hvx)
  have nr' : (l'.hs ++ (m'.hs ++ r'.hs)).Nodup := by rw [hpr]; exact n1
  obtain ⟨p1, p2, p3⟩ := List.nodup_append.1 nr'
  obtain ⟨p4, p5, p6⟩ := List.nodup_append.1 p2
  have hnJ : (BT.node x kx vx 0 k v l' r').hs.Nodup := BT.node_nodup.2 ⟨p1, p5, ⟨fun h => hx (sub x (.inl h)), fun h => hkx (sub kx (.inl h)), fun h => hvx (sub vx (.inl h))⟩,
    ⟨fun h => hx (sub x (.inr (.inr h))), fun h => hkx (sub kx (.inr (.inr h))), fun h => hvx (sub vx (.inr (.inr h)))⟩, ⟨n2.1.1, n2.1.2, n2.2⟩, fun z hz hz' => p3 z hz z (List.mem_append.2 (.inr hz')) rfl⟩
  have sz' : l'.size + r'.size ≤ 100 := by
    have h1 := congrArg List.length o.nodes
    simp only [List.length_append, BT.nodes_len] at h1
    omega
  obtain ⟨t', R2, g2, q1, q2, q3, q4⟩ := cutJ_bt (rd := rd) h01 o.la o.ra o.lk o.rk hlo1 hnJ sz'
  have fr2 : ∀ z, z ∉ l'.hs → z ≠ x → z ∉ r'.hs → R2 z = R1 z := fun z h1 h2 h3 => q4 z (by
    simp only [BT.nodes, List.mem_append, List.mem_cons, not_or]
    exact ⟨fun h => h1 (BT.nodes_hs l' z h), h2, fun h => h3 (BT.nodes_hs r' z h)⟩)
  refine ⟨t', m', R2, ?_, ⟨q1, ?_, q3, ?_, ?_, fun z hz => ?_⟩, ?_⟩
  · unfold insP
    rw [g1]
    dsimp only
    rw [g2]
  · exact o.ma.congr fun z hz => fr2 z (fun h => p3 z h z (List.mem_append.2 (.inl hz)) rfl) (fun e => hx (e ▸ sub z (.inr (.inl hz)))) (fun h => p6 z hz z h rfl)
  · rw [q2.hs]
    simp only [BT.hs]
    rw [← hpr, List.perm_iff_count]
    intro z
    simp only [List.count_append, List.count_cons, List.count_nil]
    omega
  · rw [q2.prs, hpt.put]
    rfl
  · simp only [List.mem_append, List.mem_singleton, not_or] at hz
    refine (q4 z ?_).trans (o.frame z hz.1)
    simp only [BT.nodes, List.mem_append, List.mem_cons, not_or]
    have hsub : ∀ y, y ∈ l'.nodes ∨ y ∈ m'.nodes ∨ y ∈ r'.nodes → y ∈ t.nodes := fun y hy => by rw [← o.nodes]; simp only [List.mem_append]; exact hy
    exact ⟨fun h => hz.1 (hsub z (.inl h)), hz.2, fun h => hz.1 (hsub z (.inr (.inr h)))⟩
  · rw [Ln.root_ne o.ma, hpt.find]
    split <;> omega
theorem del_bt (h0 : R 0 = none) (ht : t.At R) (hk : BT.Kd rd t) (hn : t.hs.Nodup) (sz : t.size ≤ 99) (hr : Rising t.prs) :
    ∃ (t' : BT) (old : Ln) (R' : Nat → Option (List Nat)), delP rd key R t.root = (R', t'.root, old.root) ∧ InsOut rd R R' t.hs t.nodes (if 0 ≤ findL t.prs key then cutLn t.prs (findL t.prs key).toNat ((findL t.prs key).toNat + 1) else t.prs) t' old ∧ (old.root ≠ 0 ↔ 0 ≤ findL t.prs key) := by
  have hh := BT.hgt_le t
  obtain ⟨l', m', r', R1, g1, o⟩ := cutS_bt (rd := rd) key 200 t R h0 ht hk hn (by omega) (by omega)
  have hpt := o.parted hr
  have hpr := o.hs
  have h01 : R1 0 = none := (o.frame 0 (BT.nodes_zero h0 ht)).trans h0
  have nr' : (l'.hs ++ (m'.hs ++ r'.hs)).Nodup := by rw [hpr]; exact hn
  obtain ⟨p1, p2, p3⟩ := List.nodup_append.1 nr'
  obtain ⟨p4, p5, p6⟩ := List.nodup_append.1 p2
  have sz' : l'.size + r'.size ≤ 100 := by
    have h1 := congrArg List.length o.nodes
    simp only [List.length_append, BT.nodes_len] at h1
    omega
  obtain ⟨t', R2, g2, q1, q3, q5, q6, q7, q4⟩ := cutC_bt (rd := rd) h01 o.la o.ra o.lk o.rk (List.nodup_append.2 ⟨p1, p5, fun a ha b hb => p3 a ha b (List.mem_append.2 (.inr hb))⟩) sz'
  refine ⟨t', m', R2, ?_, ⟨q1, ?_, q3, ?_, ?_, fun z hz => ?_⟩, ?_⟩
  · unfold delP
    rw [g1]
    dsimp only
    rw [g2]
  · refine o.ma.congr fun z hz => q4 z ?_
    rw [List.mem_append, not_or]
    exact ⟨fun h => p3 z (BT.nodes_hs l' z h) z (List.mem_append.2 (.inl hz)) rfl, fun h => p6 z hz z (BT.nodes_hs r' z h) rfl⟩
  · rw [q5, ← hpr, List.perm_iff_count]
    intro z
    simp only [List.count_append]
    omega
  · rw [q7, hpt.find]
    have hc := hpt.cut
    rw [hpt.rank] at hc
    by_cases hb : m'.prs.length = 1
    · rw [if_pos hb, if_pos (by omega), Int.toNat_natCast, ← hc, hb]
    · rw [if_neg hb, if_neg (by omega), ← o.prs]
      have : m'.prs = [] := List.eq_nil_of_length_eq_zero (by have := m'.prs_len; omega)
      rw [this]
      rfl
  · refine (q4 z ?_).trans (o.frame z hz)
    rw [List.mem_append, not_or]
    have hsub : ∀ y, y ∈ l'.nodes ∨ y ∈ m'.nodes ∨ y ∈ r'.nodes → y ∈ t.nodes := fun y hy => by rw [← o.nodes]; simp only [List.mem_append]; exact hy
    exact ⟨fun h => hz (hsub z (.inl h)), fun h => hz (hsub z (.inr (.inr h)))⟩
  · rw [Ln.root_ne o.ma, hpt.find]
    split <;> omega
end
end Go.Proofs.YtjpmlneihbckpaaGreatDoor
/- What the walks of the laws of joins share: pairs a, b; a tree of one node; slices' cells taken and dropped. -/
set_option linter.unusedVariables false
set_option linter.unusedSimpArgs false
namespace Go.Proofs.YtjpmlneihbckpaaGreatDoor
open Go.RowKit Go.Shelf
def prA : Pr := (⟨#[97]⟩, ⟨#[]⟩)
def prB : Pr := (⟨#[98]⟩, ⟨#[]⟩)
theorem prAB_rise : Rising [prA, prB] := by unfold Rising; decide +kernel
theorem BT.sim_root {x kx vx m : Nat} {k v : ByteArray} {t : BT} (h : BT.Sim (.node x kx vx m k v .nil .nil) t) : t.root = x := by
  have hn : t.nodes = [x] := h.nodes
  rcases BT.root_nodes t with h0 | h0
  · cases t with
    | nil => cases hn
    | node y ky vy my k' v' l r =>
      have : y ∈ (BT.node y ky vy my k' v' l r).nodes := by simp [BT.nodes]
      rw [hn] at this
      exact List.mem_singleton.1 this
  · rw [hn] at h0
    simpa using h0
theorem CellsF.take' {w : World} {F : Nat → Prop} {A : Option Addr} {l : List Pr} (h : CellsF w F A (prsV l)) (k : Nat) : CellsF w F A (prsV (l.take k)) := by
  rw [prsV_take]
  exact h.take _
def dropA (A : Option Addr) (c k : Nat) : Option Addr := if c = k then A else Option.map (fun x => x.add (k * 2)) A
theorem CellsF.drop' {w : World} {F : Nat → Prop} {A : Option Addr} {l : List Pr} {k c : Nat} (h : CellsF w F A (prsV l)) (hk : k ≤ l.length) (hc : l.length ≤ c) : CellsF w F (dropA A c k) (prsV (l.drop k)) := by
  unfold dropA
  by_cases he : k = l.length
  · subst he; left; rw [List.drop_length]; rfl
  · rcases h with h | ⟨b, o, rfl, hb, hF, hcell⟩
    · have : l = [] := by
        cases l with
        | nil => rfl
        | cons p l => simp [prsV] at h
      subst this
      left; simp [prsV]
    · rw [if_neg (by omega)]
      refine .inr ⟨b, o + k * 2, ?_, hb, hF, fun j u hu => ?_⟩
      · show some ((⟨b, o, none⟩ : Addr).add (k * 2)) = _
        unfold Addr.add; split <;> simp_all
      · rw [Nat.add_assoc]
        refine hcell _ _ ?_
        rw [prsV_drop, List.getElem?_drop] at hu
        exact hu
end Go.Proofs.YtjpmlneihbckpaaGreatDoor
/- Slices of nodes by value: the laws that keep what nodes held. -/
set_option linter.unusedVariables false
set_option linter.unusedSimpArgs false
namespace Go.Proofs.YtjpmlneihbckpaaGreatDoor
open Go.RowKit Go.Shelf
def ndC (x : Nd) : List Value := [.int .u64 (x.key : Nat), .int .u64 (x.val : Nat), .int .u64 (x.left : Nat), .int .u64 (x.right : Nat), .int .u64 (x.mark : Nat), .int .u64 (x.size : Nat)]
def ndsV (l : List Nd) : List Value := l.flatMap ndC
theorem ndsV_len (l : List Nd) : (ndsV l).length = l.length * 6 := by
  induction l with
  | nil => rfl
  | cons p l ih => simp only [ndsV, ndC, List.flatMap_cons, List.length_append, List.length_cons, List.length_nil] at ih ⊢; omega
theorem ndsV_append (l m : List Nd) : ndsV (l ++ m) = ndsV l ++ ndsV m := by simp [ndsV]
theorem ndsV_at : ∀ (l : List Nd) (k : Nat) (h : k < l.length), (ndsV l)[k * 6]? = some (.int .u64 (l[k].key : Nat)) ∧ (ndsV l)[k * 6 + 1]? = some (.int .u64 (l[k].val : Nat))
  | p :: l, 0, _ => ⟨rfl, rfl⟩
  | p :: l, k + 1, h => by
    have := ndsV_at l k (by simpa using h)
    rw [show (k + 1) * 6 = k * 6 + 6 by omega]
    exact this
theorem ndC_one (x : Nd) : ∀ u ∈ ndC x, u.oneCell' = true := by
  intro u hu
  unfold ndC at hu
  simp only [List.mem_cons, List.not_mem_nil, or_false] at hu
  rcases hu with rfl | rfl | rfl | rfl | rfl | rfl <;> rfl
theorem Tryz.under_nodes : Tryz.prog.underlying 59 = some (.slice 53) := by kernel_rfl
theorem Tryz.info_node : (Tryz.prog.info? 53).map (fun i => (i.zero, i.size, i.bytes)) = some (some (.agg #[.int .u64 0, .int .u64 0, .int .u64 0, .int .u64 0, .int .u64 0, .int .u64 0]), 6, 48) := by kernel_rfl
/-- 'append(out, x)', out the call's own: x lies in a fresh block of one node -/
theorem app_nd {ops : Array Oper} {rest : List Oper} {o : Oper} {a : Act} {Q : Exit → Act → World → Prop} (hgd : o.guard = none) (s x : Operand)
    (ho : o.op = .call { callee := .builtin .append, args := #[s, x], argTypes := #[59, 59] }) (w : World) (base : Nat) (v : Value) (xs : List Nd) (hs : a.eval s = v)
    (hown : w.ownsRow base 53 6 v xs.length (ndsV xs)) (b : Nat) (y : Nd) (hx : a.eval x = .slice (some ⟨b, 0, none⟩) 1 1) (hr : ∀ j u, (ndC y)[j]? = some u → w.cell? ⟨b, j, none⟩ = some u) (hlen : xs.length ≤ 1000000) (hbase : base ≤ w.heap.size)
    (h : ∀ v' w', w'.ownsRow base 53 6 v' (xs ++ [y]).length (ndsV (xs ++ [y])) → w.grownBy w' v.ownBlock → (v'.ownBlock = v.ownBlock ∨ v'.ownBlock = some w.heap.size) → wpList Tryz.prog ops Q rest (a.put o.dst v') w') :
    wpList Tryz.prog ops Q (o :: rest) a w := by
  obtain ⟨i0, hi, hz0, hz1, hz2⟩ := info_parts Tryz.info_node
  have hcells : ∀ j u, (ndC y)[j]? = some u → w.cell? ((⟨b, 0, none⟩ : Addr).add j) = some u := by
    intro j u hu
    rw [show (⟨b, 0, none⟩ : Addr).add j = ⟨b, j, none⟩ by unfold Addr.add; split <;> simp_all]
    exact hr j u hu
  refine wpList_append_own_at w hgd s x 59 ho base 53 i0 _ 6 48 Tryz.under_nodes hi hz0 hz1 hz2 rfl (by decide) v xs.length (ndsV xs) hs hown ⟨b, 0, none⟩ 1 1 (ndC y) hx rfl hcells (ndC_one y) (by unfold maxLen; omega) (by omega) hbase ?_
  intro v' w' h1 h2 _ h4
  exact h v' w' (by rw [List.length_append, ndsV_append]; simpa [ndsV] using h1) h2 h4
theorem ownN_below {w w1 w2 : World} {base z : Nat} {e : TypeId} {n : Nat} {v : Value} {xs : List Value} (hb : Below base w w1) (hown : w1.ownsRow base e z v n xs) (hg : w1.grownBy w2 v.ownBlock) (hB : base ≤ w1.heap.size) : Below base w w2 :=
  hb.trans ⟨hg.os, hg.tape, hg.output, hg.size, fun k hk => hg.block k (by omega) (fun e => by
    rcases hown.2 with ⟨rfl, _⟩ | ⟨g, cap, cur, rfl, hge, _⟩
    · simp [Value.ownBlock] at e
    · have : k = g := by simpa [Value.ownBlock] using e
      omega)⟩
theorem ownN_form {w : World} {base z : Nat} {e : TypeId} {v : Value} {n : Nat} {xs : List Value} (h : w.ownsRow base e z v n xs) : ∃ A c, v = .slice A n c := by
  rcases h.2 with ⟨rfl, rfl⟩ | ⟨g, cap, cur, rfl, _⟩
  · exact ⟨none, 0, rfl⟩
  · exact ⟨_, _, rfl⟩
theorem ownN_keep {B : Nat} {e : TypeId} {k : Nat} {v : Value} {n : Nat} {xs : List Value} {w w' : World} (h : w.ownsRow B e k v n xs) (hb : Below w.heap.size w w') : w'.ownsRow B e k v n xs :=
  h.kept (row := none) ⟨hb.os, hb.tape, hb.output, hb.size, fun j hj _ => hb.block j hj⟩ (by cases hv : v.ownBlock <;> simp)
theorem nd_new (W : World) (y : Nd) (b : Nat) (hb : b = W.heap.size) (T : TypeId) (j : Nat) (u : Value) (h : (ndC y)[j]? = some u) : (W.alloc (.cells #[.int .u64 (y.key : Nat), .int .u64 (y.val : Nat), .int .u64 (y.left : Nat), .int .u64 (y.right : Nat), .int .u64 (y.mark : Nat), .int .u64 (y.size : Nat)] T)).cell? ⟨b, j, none⟩ = some u := by
  subst hb
  match j, h with
  | 0, h => exact (by go_simp : _ = some (Value.int .u64 (y.key : Nat))).trans h
  | 1, h => exact (by go_simp : _ = some (Value.int .u64 (y.val : Nat))).trans h
  | 2, h => exact (by go_simp : _ = some (Value.int .u64 (y.left : Nat))).trans h
  | 3, h => exact (by go_simp : _ = some (Value.int .u64 (y.right : Nat))).trans h
  | 4, h => exact (by go_simp : _ = some (Value.int .u64 (y.mark : Nat))).trans h
  | 5, h => exact (by go_simp : _ = some (Value.int .u64 (y.size : Nat))).trans h
  | j + 6, h => cases h
theorem BT.size_nil {t : BT} (h : t.size = 0) : t = .nil := by
  cases t with
  | nil => rfl
  | node y ky vy m k v l r => simp only [BT.size] at h; omega
theorem BT.hgt_one {t : BT} (h : t.size ≠ 0) : t.hgt ≠ 0 := by
  cases t with
  | nil => exact absurd rfl h
  | node y ky vy m k v l r => simp only [BT.hgt]; omega
theorem own_none (w : World) (base z : Nat) (e : TypeId) : w.ownsRow base e z (.slice none 0 0) 0 [] := ⟨by simp, .inl ⟨rfl, rfl⟩⟩
/-- a row of numbers that lies off F, through a call that turns F -/
theorem row_off {w : World} {base c n : Nat} {A : Option Addr} {e : TypeId} {xs : List Value} {F : Nat → Prop} (h : w.ownsRow base e 1 (.slice A n c) n xs) (hF : ∀ b, F b → b < base) {i : Nat} {u : Value} (hi : i < n) (hu : xs[i]? = some u) :
    ∃ g, A = some ⟨g, 0, none⟩ ∧ ∀ W F', Turn w F W F' → W.cell? ⟨g, i, none⟩ = some u := by
  obtain ⟨g, cap, hv, hb, _⟩ := h.form (by omega)
  cases hv
  refine ⟨g, rfl, fun W F' hT => ?_⟩
  refine hT.cell ((h.cellAt i (by omega)).trans hu) (fun hf => ?_)
  have := hF _ hf
  simp only at this
  omega
theorem nds_off {w : World} {base c n : Nat} {A : Option Addr} {xs : List Nd} {F : Nat → Prop} (h : w.ownsRow base 53 6 (.slice A n c) n (ndsV xs)) (hn : n = xs.length) (hF : ∀ b, F b → b < base) {i : Nat} (hi : i < xs.length) :
    ∃ g, A = some ⟨g, 0, none⟩ ∧ ∀ W F', Turn w F W F' → W.cell? ⟨g, i * 6, none⟩ = some (.int .u64 (xs[i].key : Nat)) ∧ W.cell? ⟨g, i * 6 + 1, none⟩ = some (.int .u64 (xs[i].val : Nat)) := by
  obtain ⟨g, cap, hv, hb, _⟩ := h.form (by omega)
  cases hv
  obtain ⟨e1, e2⟩ := ndsV_at xs i hi
  have hg : ¬ F g := fun hf => by have := hF _ hf; omega
  exact ⟨g, rfl, fun W F' hT => ⟨hT.cell ((h.cellAt _ (by omega)).trans e1) hg, hT.cell ((h.cellAt _ (by omega)).trans e2) hg⟩⟩
end Go.Proofs.YtjpmlneihbckpaaGreatDoor
/- parts.Check of a right tree; loftlaw14's one, drop, pairs, is. -/
set_option linter.unusedVariables false
set_option linter.unusedSimpArgs false
namespace Go.Proofs.YtjpmlneihbckpaaGreatDoor
open Go.RowKit Go.Shelf
section
variable {w w' : World} {s N : Nat} {R : Nat → Option (List Nat)} {n : Nat} {t : BT} {l : List Pr}
set_option maxHeartbeats 4000000 in
set_option maxRecDepth 100000 in
theorem paCheckT_at (h : TreeR N w s R n t l) (rd : Bool) (hk : BT.Kd rd t) : Calls Tryz.prog 41 #[.pointer (some ⟨s, 0, none⟩), .int .i64 (kindZ rd), .int .u64 (t.root : Nat)] w fun e w' => e = .returned (.int .i64 0) ∧ Below w.heap.size w w' := by
  have hAsk : Calls Tryz.prog 70 #[.pointer (some ⟨s, 0, none⟩), .int .i64 (kindZ rd), .string ⟨#[]⟩, .slice none 0 0] w _ := paAsk_ok h.rd rd ⟨#[]⟩ (by decide) none 0 [] (by simp) (HsAt.nil none) (by simp) (by simp)
  have hC : ∀ W, Below w.heap.size w W → Calls Tryz.prog (ckF rd) #[.pointer (some ⟨s, 0, none⟩), .int .u64 (t.root : Nat)] W fun e w' => e = .returned (.int .i64 0) ∧ Below W.heap.size W w' := fun W hb => by
    cases rd with
    | false => exact tavCheck_at (h.below hb) hk
    | true => exact trbCheck_at (h.below hb) hk
  unfold cutV at hAsk
  clear h hk
  cases rd with
  | false =>
    have hA : Hid (Calls Tryz.prog 70 #[.pointer (some ⟨s, 0, none⟩), .int .i64 1, .string ⟨#[]⟩, .slice none 0 0] w fun e w' => e = .returned (.tuple #[.agg #[.pointer (some ⟨s, 0, none⟩), .func (.func 124) #[] #[], .func (.func 125) #[] #[]], .int .i64 0]) ∧ Below w.heap.size w w') := Lib.hid hAsk
    have hC2 : Hid (∀ W, Below w.heap.size w W → Calls Tryz.prog 125 #[.pointer (some ⟨s, 0, none⟩), .int .u64 (t.root : Nat)] W fun e w' => e = .returned (.int .i64 0) ∧ Below W.heap.size W w') := Lib.hid hC
    clear hAsk hC
    show Calls Tryz.prog 41 #[.pointer (some ⟨s, 0, none⟩), .int .i64 1, .int .u64 (t.root : Nat)] w _
    go_enter Tryz.func41, Tryz.ntmps41
    go_wp2_with fail
    refine hA.out.mono ?_
    rintro e W1 ⟨rfl, hb⟩
    have hB1H := Lib.hid hb
    have hz1 := hb.size
    clear hb hA
    have hB2 := hB1H.out.alloc hz1 (Obj.cells #[.pointer (some ⟨s, 0, none⟩), .func (.func 124) #[] #[], .func (.func 125) #[] #[]] 124)
    have hB2H := Lib.hid hB2
    clear hB2
    go_wp2_with fail
    refine (hC2.out _ hB2H.out).mono ?_
    rintro e W3 ⟨rfl, hb⟩
    have hB3H := Lib.hid (hB2H.out.trans (hb.mono hB2H.out.size))
    clear hb
    go_wp2
    go_ret
    exact ⟨rfl, hB3H.out⟩
  | true =>
    have hA : Hid (Calls Tryz.prog 70 #[.pointer (some ⟨s, 0, none⟩), .int .i64 2, .string ⟨#[]⟩, .slice none 0 0] w fun e w' => e = .returned (.tuple #[.agg #[.pointer (some ⟨s, 0, none⟩), .func (.func 24) #[] #[], .func (.func 21) #[] #[]], .int .i64 0]) ∧ Below w.heap.size w w') := Lib.hid hAsk
    have hC2 : Hid (∀ W, Below w.heap.size w W → Calls Tryz.prog 21 #[.pointer (some ⟨s, 0, none⟩), .int .u64 (t.root : Nat)] W fun e w' => e = .returned (.int .i64 0) ∧ Below W.heap.size W w') := Lib.hid hC
    clear hAsk hC
    show Calls Tryz.prog 41 #[.pointer (some ⟨s, 0, none⟩), .int .i64 2, .int .u64 (t.root : Nat)] w _
    go_enter Tryz.func41, Tryz.ntmps41
    go_wp2_with fail
    refine hA.out.mono ?_
    rintro e W1 ⟨rfl, hb⟩
    have hB1H := Lib.hid hb
    have hz1 := hb.size
    clear hb hA
    have hB2 := hB1H.out.alloc hz1 (Obj.cells #[.pointer (some ⟨s, 0, none⟩), .func (.func 24) #[] #[], .func (.func 21) #[] #[]] 124)
    have hB2H := Lib.hid hB2
    clear hB2
    go_wp2_with fail
    refine (hC2.out _ hB2H.out).mono ?_
    rintro e W3 ⟨rfl, hb⟩
    have hB3H := Lib.hid (hB2H.out.trans (hb.mono hB2H.out.size))
    clear hb
    go_wp2
    go_ret
    exact ⟨rfl, hB3H.out⟩
end
set_option maxRecDepth 100000 in
theorem paOne_at (x : Nat) (w : World) : Calls Tryz.prog 38 #[.int .u64 (x : Nat)] w fun e w' => e = .returned (.int .i64 (if x = 0 then 0 else 1)) ∧ w = w' := by
  by_cases h0 : x = 0
  · have d : ((x : Int) != 0) = false := by simp; omega
    rw [if_pos h0]
    clear h0
    go_enter Tryz.func38, Tryz.ntmps38
    go_wp2
    go_ret
    exact ⟨rfl, rfl⟩
  · have d : ((x : Int) != 0) = true := by simp; omega
    rw [if_neg h0]
    clear h0
    go_enter Tryz.func38, Tryz.ntmps38
    go_wp2
    go_ret
    exact ⟨rfl, rfl⟩
/-- what drop leaves -/
def DropPost (w : World) (s : Nat) (F : Nat → Prop) (R : Nat → Option (List Nat)) (H hs : List Nat) (P q most last G : Nat) (e : Ending) (w' : World) : Prop :=
  ∃ F' H', e = .returned (.tuple #[]) ∧ StoreIs w' s F' (dropR R hs) H' P q most last G ∧ H'.length + hs.length = H.length ∧ Turn w F w' F'
set_option maxHeartbeats 4000000 in
set_option maxRecDepth 100000 in
theorem paDrop_at {w : World} {s : Nat} {F : Nat → Prop} {R : Nat → Option (List Nat)} {H : List Nat} {P q most last G : Nat} (h : StoreIs w s F R H P q most last G) (hsh : Short R) (z : R 0 = none) : ∀ (m : Ln), m.At R → m.hs.Nodup →
    Calls Tryz.prog 47 #[.pointer (some ⟨s, 0, none⟩), .int .u64 (m.root : Nat)] w (DropPost w s F R H m.hs P q most last G)
  | .none, hm, hnd => by
    obtain ⟨n, hrd, _⟩ := h.rd
    have hGH := Lib.hid (nget_lit hrd 0 (by omega) Nd.zero (BT.nodeG_zero z) 7 (by unfold nodeE; rw [z]))
    have hS := Lib.hid h
    clear h hrd
    show Calls Tryz.prog 47 #[.pointer (some ⟨s, 0, none⟩), .int .u64 ((0 : Nat) : Int)] w _
    unfold DropPost
    go_enter Tryz.func47, Tryz.ntmps47
    go_wp2_with fail
    refine hGH.out.mono ?_
    unfold Nd.zero
    rintro e w1 ⟨rfl, hb⟩
    have hbH := Lib.hid hb
    have hz1 := hb.size
    clear hb hGH
    go_wp2
    go_end0
    have hbA := hbH.out.alloc hz1 (Obj.cells #[.int .u64 0, .int .u64 0, .int .u64 0, .int .u64 0, .int .u64 0, .int .u64 0] 53)
    exact ⟨F, H, rfl, by rw [show Ln.none.hs = [] from rfl, dropR_nil]; exact hS.out.below hbA, rfl, Turn.below hbA⟩
  | .one x kx vx k v, hm, hnd => by
    obtain ⟨n, hrd, _⟩ := h.rd
    obtain ⟨nd, hnx⟩ : ∃ nd, nodeG R x = nd := ⟨_, rfl⟩
    have hkey : nd.key = kx := by rw [← hnx]; exact hm.key
    have hval : nd.val = vx := by rw [← hnx]; exact hm.val
    obtain ⟨nd', hnd'⟩ := nodeE_zero.1 hm.e
    have hRx := nodeR_some hnd'
    have hx := (hrd.u64 hRx).1
    have hG := Lib.hid (nget_lit hrd x hx nd hnx 0 hm.e)
    simp only [Ln.hs, List.nodup_cons, List.mem_cons, List.not_mem_nil, or_false, not_or, not_false_eq_true, List.nodup_nil, and_true] at hnd
    obtain ⟨⟨n1, n2⟩, n3⟩ := hnd
    have t1 := (Tx.text_words k hm.ks).1
    have t2 := (Tx.text_words v hm.vs).1
    have hD1 := Lib.hid (fun W (hb : Below w.heap.size w W) => bdrop_at (h.below hb) hsh hm.kt t1)
    have m1 : kx ∈ H := (h.dom kx).2 (by rw [hm.kt]; simp)
    have m2 : vx ∈ H := (h.dom vx).2 (by rw [hm.vt]; simp)
    have m3 : x ∈ H := (h.dom x).2 (by rw [hRx]; simp)
    have l1 := List.length_erase_of_mem m1
    have l2 := List.length_erase_of_mem ((List.mem_erase_of_ne (Ne.symm n3)).2 m2)
    have l3 := List.length_erase_of_mem ((List.mem_erase_of_ne n2).2 ((List.mem_erase_of_ne n1).2 m3))
    have p1 := List.length_pos_of_mem m1
    have p2 := List.length_pos_of_mem ((List.mem_erase_of_ne (Ne.symm n3)).2 m2)
    have p3 := List.length_pos_of_mem ((List.mem_erase_of_ne n2).2 ((List.mem_erase_of_ne n1).2 m3))
    have hlen : Hid ((((H.erase kx).erase vx).erase x).length + 3 = H.length) := Lib.hid (by omega)
    clear l1 l2 l3 p1 p2 p3 m1 m2 m3
    have a3H : Hid (updR R kx none vx = some (Tx.wordsL v.data.toList)) := Lib.hid ((updR_other (Ne.symm n3)).trans hm.vt)
    have a1H : Hid (updR (updR R kx none) vx none x = some nd'.ws) := Lib.hid ((updR_other n2).trans ((updR_other n1).trans hRx))
    have hFb : Hid (∀ b, F b → b < w.heap.size) := Lib.hid (fun b hb => h.lt hb)
    have t2H := Lib.hid t2
    have hshH := Lib.hid hsh
    subst hkey hval
    clear h hrd hnx hnd' hRx hm t1 t2 hsh n1 n2 n3 z
    show Calls Tryz.prog 47 #[.pointer (some ⟨s, 0, none⟩), .int .u64 (x : Nat)] w _
    unfold DropPost
    go_enter Tryz.func47, Tryz.ntmps47
    go_wp2_with fail
    refine hG.out.mono ?_
    rintro e w3 ⟨rfl, hb3⟩
    have hb3H := Lib.hid hb3
    have hz3 := hb3.size
    clear hb3
    go_wp2_with fail
    have hb4 : Below w.heap.size w (w3.alloc (Obj.cells #[.int .u64 (nd.key : Nat), .int .u64 (nd.val : Nat), .int .u64 (nd.left : Nat), .int .u64 (nd.right : Nat), .int .u64 (nd.mark : Nat), .int .u64 (nd.size : Nat)] 53)) := hb3H.out.alloc hz3 _
    have q1 : (w3.alloc (Obj.cells #[.int .u64 (nd.key : Nat), .int .u64 (nd.val : Nat), .int .u64 (nd.left : Nat), .int .u64 (nd.right : Nat), .int .u64 (nd.mark : Nat), .int .u64 (nd.size : Nat)] 53)).cell? ⟨w3.heap.size, 1, none⟩ = some (.int .u64 (nd.val : Nat)) := by go_simp
    have hnF : ¬ F w3.heap.size := fun hf => by have := hFb.out _ hf; omega
    refine (hD1.out _ hb4).mono ?_
    rintro e w5 ⟨F5, rfl, hS5, hT5⟩
    have hq5 := hT5.cell q1 hnF
    have hT5H := Lib.hid ((Turn.below (F := F) hb4).trans hT5)
    have hD2 := Lib.hid (bdrop_at hS5 (hshH.out.upd _ _ (fun ws e => by cases e)) a3H.out t2H.out)
    clear hb4 q1 hS5 hT5 hnF hD1 hG
    go_wp2_with fail
    refine hD2.out.mono ?_
    rintro e w6 ⟨F6, rfl, hS6, hT6⟩
    have hT6H := Lib.hid (hT5H.out.trans hT6)
    have hD3 := Lib.hid (ndrop_at hS6 a1H.out rfl)
    clear hS6 hT6 hq5 hD2
    go_wp2_with fail
    refine hD3.out.mono ?_
    rintro e w7 ⟨F7, rfl, hS7, hT7⟩
    have hS7' : StoreIs w7 s F7 (dropR R [x, nd.key, nd.val]) (((H.erase nd.key).erase nd.val).erase x) P q most last G := by
      have e := dropR_three R [] x nd.key nd.val
      rw [dropR_nil] at e
      rw [← show updR (updR (updR R nd.key none) nd.val none) x none = dropR R [x, nd.key, nd.val] from e]
      exact hS7
    have hS7H := Lib.hid hS7'
    have hT7H := Lib.hid (hT6H.out.trans hT7)
    clear hS7 hS7' hT7 hD3
    go_wp2
    go_end0
    exact ⟨F7, _, rfl, hS7H.out, hlen.out, hT7H.out⟩
section
variable {w w' : World} {s N : Nat} {R : Nat → Option (List Nat)} {n : Nat} {t : BT} {l : List Pr}
set_option maxHeartbeats 4000000 in
set_option maxRecDepth 100000 in
theorem paPairs_at (h : TreeR N w s R n t l) : Calls Tryz.prog 74 #[.pointer (some ⟨s, 0, none⟩), .int .u64 (t.root : Nat)] w fun e w' => ∃ v, e = .returned (.tuple #[v, .bool true]) ∧ w'.ownsRow w.heap.size 46 2 v l.length (prsV l) ∧ Below w.heap.size w w' := by
  have hLi := Lib.hid (tlist_at h)
  have hTR := Lib.hid h
  have hle := h.le
  clear h
  go_enter Tryz.func74, Tryz.ntmps74
  go_wp2_with fail
  refine hLi.out.mono ?_
  rintro e w2 ⟨v, rfl, hro, hb2⟩
  obtain ⟨A2, cc, rfl⟩ := ownsRow_form hro
  have hnl := Lib.hid hTR.out.nodes_len
  have hcells : Hid (∀ i (hi : i < l.length) (hi2 : i < t.nodes.length), ∃ g, A2 = some ⟨g, 0, none⟩ ∧ ∀ W, Below w2.heap.size w2 W → W.cell? ⟨g, i, none⟩ = some (.int .u64 (t.nodes[i] : Nat))) := Lib.hid (fun i hi hi2 => by
    obtain ⟨g, cap, hv⟩ := row_pos hro (by omega)
    cases hv
    refine ⟨g, rfl, fun W hb => ?_⟩
    have h1 := hro.cells (g := g) rfl i (.int .u64 (t.nodes[i] : Nat)) (by rw [hsV, List.getElem?_map, List.getElem?_eq_getElem hi2]; rfl)
    rw [show (⟨g, 0, none⟩ : Addr).add i = ⟨g, i, none⟩ by unfold Addr.add; split <;> simp_all] at h1
    exact (hb.cell (p := ⟨g, i, none⟩) (cell_lt h1)).trans h1)
  have hTR2 := Lib.hid (hTR.out.below hb2)
  have hb2H := Lib.hid hb2
  clear hro hb2 hLi hTR
  go_wp2_with fail
  go_loopw [6, 8] (fun ov iv wr => ∃ k : Nat, k ≤ l.length ∧ iv = .int .i64 k ∧ Hid (wr.ownsRow w2.heap.size 46 2 ov (l.take k).length (prsV (l.take k))) ∧ Hid (Below w2.heap.size w2 wr)) (fun _ iv _ => l.length - (intOf iv).toNat)
  case atStart => exact ⟨0, by omega, rfl, Lib.hid (by rw [List.take_zero]; exact own_none w2 _ 2 _), Lib.hid (Below.refl _ _)⟩
  case round =>
    obtain ⟨k, hk, rfl, hown, hb⟩ := hrel
    by_cases hlt : k < l.length
    · have hk2 : k < t.nodes.length := by rw [hnl.out]; exact hlt
      obtain ⟨g, hA2, hgc⟩ := hcells.out k hlt hk2
      have hP := Lib.hid (tpair_at (hTR2.out.below hb.out) hlt hk2)
      have hc0 := hgc wr hb.out
      have hsn : Hid (l.take (k + 1) = l.take k ++ [l[k]]) := Lib.hid (List.take_succ_eq_append_getElem hlt)
      obtain ⟨x, hx⟩ : ∃ x, t.nodes[k] = x := ⟨_, rfl⟩
      obtain ⟨p, hp⟩ : ∃ p, l[k] = p := ⟨_, rfl⟩
      simp only [hx, hp] at hP hc0
      rw [hp] at hsn
      have hlk : (l.take k).length = k := by rw [List.length_take]; omega
      have hlkH := Lib.hid hlk
      obtain ⟨xs, hxs⟩ : ∃ xs, l.take k = xs := ⟨_, rfl⟩
      rw [hxs] at hown hsn hlkH
      have hxl : xs.length ≤ 1000000000 := by rw [← hxs, hlk]; omega
      subst hA2
      clear hgc hx hp hxs hlk
      go_wp2_with fail
      refine hP.out.mono ?_
      rintro e w4 ⟨rfl, hb4⟩
      have hb4H := Lib.hid (hb.out.trans (hb4.mono hb.out.size))
      have hz4 := hb4H.out.size
      have hown4 := Lib.hid (ownN_keep hown.out hb4)
      clear hb4 hc0 hP
      go_wp2_with (at_builtin; go_must (refine app_prs rfl (.tmp 31) (.tmp 33) rfl _ w2.heap.size _ xs rfl ((hown4.out.alloc _).alloc _) (w4.heap.size + 1 + 1) _ 1 1 [p] rfl rfl (by have := prs_one (w4.alloc (Obj.cells #[.string p.1, .string p.2] 46)) p; simpa using this) (fun e => by cases e) (by simp; omega) (by simp; omega) ?_))
      intro v5 w5 hown5 hg5 _
      have hb5H := Lib.hid (own_below ((hb4H.out.alloc hz4 _).alloc (by simp; omega) _) ((hown4.out.alloc _).alloc _) hg5 (by simp; omega))
      have hown5' : w5.ownsRow w2.heap.size 46 2 v5 (l.take (k + 1)).length (prsV (l.take (k + 1))) := by rw [hsn.out, List.length_append]; exact hown5
      have hown5H := Lib.hid hown5'
      clear hown5 hown5' hg5 hown hown4 hsn
      go_wp2
      go_roundw
      case rel => exact ⟨k + 1, by omega, by go_num, hown5H, hb5H⟩
      case measure => simp [intOf]; omega
    · obtain rfl : k = l.length := by omega
      have hfin := hown.out
      rw [List.take_length] at hfin
      have hfinH := Lib.hid (own_lower hfin hb2H.out.size)
      have hbf := Lib.hid (hb2H.out.trans (hb.out.mono hb2H.out.size))
      clear hfin hown
      go_wp2
      go_ret2
      exact ⟨_, rfl, hfinH.out, hbf.out⟩
set_option maxHeartbeats 4000000 in
set_option maxRecDepth 100000 in
theorem paIs_at {F : Nat → Prop} {A : Option Addr} {c : Nat} (h : TreeR N w s R n t l) (rd : Bool) (hk : BT.Kd rd t) (hc : CellsF w F A (prsV l)) : Calls Tryz.prog 36 #[.pointer (some ⟨s, 0, none⟩), .int .i64 (kindZ rd), .int .u64 (t.root : Nat), .slice A l.length c] w fun e w' => e = .returned (.bool true) ∧ Below w.heap.size w w' := by
  have hP := Lib.hid (paPairs_at h)
  have hle := h.le
  have hCk := Lib.hid (fun W (hb : Below w.heap.size w W) => paCheckT_at (h.below hb) rd hk)
  have hcf := Lib.hid hc
  clear h hk hc
  generalize kindZ rd = kz at *
  go_enter Tryz.func36, Tryz.ntmps36
  go_wp2_with fail
  refine hP.out.mono ?_
  rintro e w2 ⟨v, rfl, hown, hb2⟩
  obtain ⟨A2, c2, rfl, -, -, hpr⟩ := own_pairs hown rfl
  have hc2 : CellsF w2 (fun _ => False) A2 (prsV l) := CellsF.of_prs hpr (Nat.le_refl _) (fun b hb => hb.elim)
  have hSm := Lib.hid (refSame_eq (c := c2) (c' := c) hc2 (hcf.out.turn (Turn.below hb2)) (by omega))
  have hb2H := Lib.hid hb2
  clear hown hb2 hpr hc2 hP
  go_wp2_with fail
  refine hSm.out.mono ?_
  rintro e w3 ⟨rfl, hb3⟩
  have hb3H := Lib.hid (hb2H.out.trans (hb3.mono hb2H.out.size))
  clear hb3 hSm
  go_wp2_with fail
  refine (hCk.out _ hb3H.out).mono ?_
  rintro e w4 ⟨rfl, hb4⟩
  have hb4H := Lib.hid (hb3H.out.trans (hb4.mono hb3H.out.size))
  clear hb4 hCk
  go_wp2
  go_ret
  exact ⟨rfl, hb4H.out⟩
end
end Go.Proofs.YtjpmlneihbckpaaGreatDoor
/- What leaf leaves. -/
set_option linter.unusedVariables false
set_option linter.unusedSimpArgs false
namespace Go.Proofs.YtjpmlneihbckpaaGreatDoor
open Go.RowKit Go.Shelf
/-- what leaf leaves: a node of a pair, without sides -/
def LeafPost (w : World) (s : Nat) (F : Nat → Prop) (R : Nat → Option (List Nat)) (H : List Nat) (P q most last G m : Nat) (p : Pr) (e : Ending) (w' : World) : Prop :=
  ∃ x kx vx F' R' H', e = .returned (.int .u64 (x : Nat)) ∧ GrowOut R R' (.node x kx vx m p.1 p.2 .nil .nil) ∧ StoreIs w' s F' R' H' (P + 9) q most last (G + 3) ∧ H'.length = H.length + 3 ∧ Turn w F w' F' ∧ x < 18446744073709551616
end Go.Proofs.YtjpmlneihbckpaaGreatDoor
/- parts' calls on right trees, as contracts. -/
set_option linter.unusedVariables false
set_option linter.unusedSimpArgs false
namespace Go.Proofs.YtjpmlneihbckpaaGreatDoor
open Go.RowKit Go.Shelf
theorem blob_lo {R : Nat → Option (List Nat)} {x : Nat} {k : ByteArray} (h : R x = some (Tx.wordsL k.data.toList)) (hk : k.size ≤ 1000) : blobR R x = some k ∧ blobE R x = 0 := by
  obtain ⟨t1, t2⟩ := Tx.text_words k hk
  unfold blobR blobE
  rw [h]
  simp only [if_pos t1, t2]
  exact ⟨trivial, trivial⟩
section
variable {w w' : World} {s : Nat} {F : Nat → Prop} {R : Nat → Option (List Nat)} {H : List Nat} {P q most last G : Nat} {t : BT}
theorem paInsT_at (h : StoreIs w s F R H P q most last G) (rd : Bool) (h0 : R 0 = none) (hsh : Short R) (ht : t.At R) (hk : BT.Kd rd t) {x kx vx : Nat} {k v : ByteArray} (hm : BT.Lo R x kx vx k v) (hn : (t.hs ++ [x, kx, vx]).Nodup) (sz : t.size ≤ 99) (hr : Rising t.prs) :
    Calls Tryz.prog 34 #[.pointer (some ⟨s, 0, none⟩), .int .i64 (kindZ rd), .int .u64 (t.root : Nat), .int .u64 (x : Nat)] w fun e w' => ∃ (t' : BT) (old : Ln) (R' : Nat → Option (List Nat)), e = .returned (.tuple #[.int .u64 (t'.root : Nat), .int .u64 (old.root : Nat), .int .i64 0]) ∧
      InsOut rd R R' (t.hs ++ [x, kx, vx]) (t.nodes ++ [x]) (putL t.prs (k, v)) t' old ∧ (old.root ≠ 0 ↔ 0 ≤ findL t.prs k) ∧ KeepsN R R' ∧ StoreIs w' s F R' H P q most last G ∧ Turn w F w' F := by
  obtain ⟨n, hrd, _⟩ := h.rd
  obtain ⟨nd', hnd'⟩ := nodeE_zero.1 hm.e
  have hx := (hrd.u64 (nodeR_some hnd')).1
  have hi1 : isR R x = true := by unfold isR; rw [hm.e]; simp
  have hb := blob_lo hm.kt hm.ks
  have hj := paInsertT_at h hsh rd (BT.root_lt ht hrd) hx hm.nz (isR_root ht) hi1 k (by rw [hm.key]; exact hb.1) (by rw [hm.key]; exact hb.2)
  have hkp := insP_keeps rd k R t.root x
  obtain ⟨t', old, R', e1, o, ho⟩ := ins_bt (rd := rd) h0 ht hk hm hn sz hr
  rw [e1] at hj hkp
  exact hj.mono fun e w' ⟨he, hS, hT⟩ => ⟨t', old, R', he, o, ho, hkp, hS, hT⟩
theorem paDelT_at (h : StoreIs w s F R H P q most last G) (rd : Bool) (h0 : R 0 = none) (hsh : Short R) (ht : t.At R) (hk : BT.Kd rd t) (hn : t.hs.Nodup) (sz : t.size ≤ 99) (hr : Rising t.prs) (key : ByteArray) (hky : key.size ≤ 1000) :
    Calls Tryz.prog 40 #[.pointer (some ⟨s, 0, none⟩), .int .i64 (kindZ rd), .int .u64 (t.root : Nat), .string key] w fun e w' => ∃ (t' : BT) (old : Ln) (R' : Nat → Option (List Nat)), e = .returned (.tuple #[.int .u64 (t'.root : Nat), .int .u64 (old.root : Nat), .int .i64 0]) ∧
      InsOut rd R R' t.hs t.nodes (if 0 ≤ findL t.prs key then cutLn t.prs (findL t.prs key).toNat ((findL t.prs key).toNat + 1) else t.prs) t' old ∧ (old.root ≠ 0 ↔ 0 ≤ findL t.prs key) ∧ KeepsN R R' ∧ StoreIs w' s F R' H P q most last G ∧ Turn w F w' F := by
  obtain ⟨n, hrd, _⟩ := h.rd
  have hj := paDeleteT_at h hsh rd (BT.root_lt ht hrd) key hky (isR_root ht)
  have hkp := delP_keeps rd key R t.root
  obtain ⟨t', old, R', e1, o, ho⟩ := del_bt (rd := rd) (key := key) h0 ht hk hn sz hr
  rw [e1] at hj hkp
  exact hj.mono fun e w' ⟨he, hS, hT⟩ => ⟨t', old, R', he, o, ho, hkp, hS, hT⟩
theorem paSplT_at (h : StoreIs w s F R H P q most last G) (rd : Bool) (h0 : R 0 = none) (hsh : Short R) (ht : t.At R) (hk : BT.Kd rd t) (hn : t.hs.Nodup) (sz : t.size ≤ 99) (key : ByteArray) (hky : key.size ≤ 1000) :
    Calls Tryz.prog 37 #[.pointer (some ⟨s, 0, none⟩), .int .i64 (kindZ rd), .int .u64 (t.root : Nat), .string key] w fun e w' => ∃ (l : BT) (m : Ln) (r : BT) (R' : Nat → Option (List Nat)), e = .returned (.tuple #[.int .u64 (l.root : Nat), .int .u64 (m.root : Nat), .int .u64 (r.root : Nat), .int .i64 0]) ∧
      CutOut rd R R' key t l m r ∧ KeepsN R R' ∧ StoreIs w' s F R' H P q most last G ∧ Turn w F w' F := by
  obtain ⟨n, hrd, _⟩ := h.rd
  have hh := BT.hgt_le t
  have hj := paSplitT_at h hsh rd (BT.root_lt ht hrd) key hky (isR_root ht)
  have hkp := cutS_keeps rd key 200 R t.root
  obtain ⟨l, m, r, R', e1, o⟩ := cutS_bt (rd := rd) key 200 t R h0 ht hk hn (by omega) (by omega)
  rw [e1] at hj hkp
  exact hj.mono fun e w' ⟨he, hS, hT⟩ => ⟨l, m, r, R', he, o, hkp, hS, hT⟩
theorem paConT_at {l r : BT} (h : StoreIs w s F R H P q most last G) (rd : Bool) (h0 : R 0 = none) (hsh : Short R) (hl : l.At R) (hr : r.At R) (al : BT.Kd rd l) (ar : BT.Kd rd r) (hn : (l.hs ++ r.hs).Nodup) (sz : l.size + r.size ≤ 100) :
    Calls Tryz.prog 39 #[.pointer (some ⟨s, 0, none⟩), .int .i64 (kindZ rd), .int .u64 (l.root : Nat), .int .u64 (r.root : Nat)] w fun e w' => ∃ (t : BT) (R' : Nat → Option (List Nat)), e = .returned (.tuple #[.int .u64 (t.root : Nat), .int .i64 0]) ∧
      (t.At R' ∧ BT.Kd rd t ∧ t.hs = l.hs ++ r.hs ∧ t.nodes = l.nodes ++ r.nodes ∧ t.prs = l.prs ++ r.prs ∧ ∀ z, z ∉ l.nodes ++ r.nodes → R' z = R z) ∧ KeepsN R R' ∧ StoreIs w' s F R' H P q most last G ∧ Turn w F w' F := by
  obtain ⟨n, hrd, _⟩ := h.rd
  have hj := paConcatT_at h hsh rd (BT.root_lt hl hrd) (BT.root_lt hr hrd) (isR_root hl) (isR_root hr)
  have hkp := cutC_keeps rd R l.root r.root
  obtain ⟨t, R', e1, o⟩ := cutC_bt (rd := rd) h0 hl hr al ar hn sz
  rw [e1] at hj hkp
  exact hj.mono fun e w' ⟨he, hS, hT⟩ => ⟨t, R', he, o, hkp, hS, hT⟩
end
end Go.Proofs.YtjpmlneihbckpaaGreatDoor
/- loftlaw14.leaf: the walk. -/
set_option linter.unusedVariables false
set_option linter.unusedSimpArgs false
namespace Go.Proofs.YtjpmlneihbckpaaGreatDoor
open Go.RowKit Go.Shelf
set_option maxHeartbeats 2000000 in
set_option maxRecDepth 100000 in
theorem leaf14_at {w : World} {s : Nat} {F : Nat → Prop} {R : Nat → Option (List Nat)} {H : List Nat} {P q most last G : Nat} (h : StoreIs w s F R H P q most last G) (p : Pr) (h1 : p.1.size ≤ 1000) (h2 : p.2.size ≤ 1000)
    (hq : (P + 9) * 64 ≤ q) (hmost : H.length + 3 ≤ most) (hlast : G + 3 ≤ last) :
    Calls Tryz.prog 35 #[.pointer (some ⟨s, 0, none⟩), .agg #[.string p.1, .string p.2]] w (LeafPost w s F R H P q most last G 0 p) := by
  obtain ⟨W0, hW0⟩ : ∃ W, W = w.alloc (Obj.cells #[Value.string p.1, Value.string p.2] 46) := ⟨_, rfl⟩
  have hbx := Box.new w 46 [Value.string p.1, Value.string p.2]
  have hb0 : Below w.heap.size w W0 := by rw [hW0]; exact (Below.refl _ w).alloc (Nat.le_refl _) _
  rw [← hW0] at hbx
  have hF : ¬ F w.heap.size := fun hf => by have := h.lt hf; omega
  have hPut1 := Lib.hid (bput_at (h.below hb0) p.1 h1)
  have hw1 := words_le h1
  have hw2 := words_le h2
  have hg1 := pgsN_le (n := (Tx.wordsL p.1.data.toList).length + 2) (by omega)
  have hg2 := pgsN_le (n := (Tx.wordsL p.2.data.toList).length + 2) (by omega)
  have c0 := hbx.at' (i := 0) rfl
  have hbxH := Lib.hid hbx
  have hb0H := Lib.hid hb0
  have hW0H := Lib.hid hW0
  clear h hb0 hw1 hw2 hW0 hbx
  go_enter Tryz.func35, Tryz.ntmps35
  go_wp2_with fail
  rw [← hW0H.out]
  refine hPut1.out.mono ?_
  rintro e w1 (⟨x1, F1, n1, x10, x164, rfl, hS1, hT1⟩ | ⟨er, F1, rfl, her, hS1, hT1⟩)
  · have hPut2 := Lib.hid (bput_at hS1 p.2 h2)
    have hbx1 := Lib.hid (hbxH.out.turn hT1 hF)
    have c1 := hbx1.out.at' (i := 1) rfl
    have hF1 : ¬ F1 w.heap.size := hT1.not hbxH.out.lt hF
    have n1H := Lib.hid n1
    have hT1H := Lib.hid ((Turn.below (F := F) hb0H.out).trans hT1)
    clear hS1 hT1 n1 hPut1 c0
    go_wp2_with fail
    refine hPut2.out.mono ?_
    rintro e w2 (⟨x2, F2, n2, x20, x264, rfl, hS2, hT2⟩ | ⟨er, F2, rfl, her, hS2, hT2⟩)
    · have hMk := nmake_at hS2 ⟨x1, x2, 0, 0, 0, 1⟩ ⟨x164, x264, by simp, by simp, by simp, by simp⟩
      unfold Nd.v at hMk
      have hMkH := Lib.hid hMk
      have n2H := Lib.hid n2
      have hT2H := Lib.hid (hT1H.out.trans hT2)
      clear hS2 hT2 n2 hPut2 hMk c1
      go_wp2_with fail
      refine hMkH.out.mono ?_
      rintro e w5 (⟨x5, F5, n5, x50, x564, rfl, hS5, hT5⟩ | ⟨er, F5, rfl, her, hS5, hT5⟩)
      · have hfin : Hid (LeafPost w s F R H P q most last G 0 p (.returned (.int .u64 (x5 : Nat))) w5) := Lib.hid (by
          refine ⟨x5, x1, x2, F5, _, _, rfl, ?_, hS5.more ?_ ?_, ?_, hT2H.out.trans hT5, x564⟩
          · exact grow_plain n1H.out x10 n2H.out x20 (GrowOut.nil _) (GrowOut.nil _) n5 x50 h1 h2 0
          · have : pgsN ((Nd.ws ⟨x1, x2, 0, 0, 0, 1⟩).length + 2) = 1 := by simp [Nd.ws, pgsN]
            rw [this]
            omega
          · omega
          · simp only [List.length_cons])
        clear hS5 hT5 n5
        go_wp2
        go_ret
        exact hfin.out
      · have : pgsN ((Nd.ws ⟨x1, x2, 0, 0, 0, 1⟩).length + 2) = 1 := by simp [Nd.ws, pgsN]
        rw [this] at her
        exfalso; simp only [List.length_cons] at her; omega
    · exfalso; simp only [List.length_cons] at her; omega
  · exfalso; omega
end Go.Proofs.YtjpmlneihbckpaaGreatDoor
/- A right tree of a kind in a store, and a node that lies alone: what parts' calls make of them. -/
set_option linter.unusedVariables false
set_option linter.unusedSimpArgs false
namespace Go.Proofs.YtjpmlneihbckpaaGreatDoor
open Go.RowKit Go.Shelf
/-- a right tree of a kind, that has just some pairs, and a node alone: nothing else lies in the store -/
structure PaIn (w : World) (s : Nat) (F : Nat → Prop) (R : Nat → Option (List Nat)) (H : List Nat) (P q most last G : Nat) (rd : Bool) (t : BT) (old : Ln) (l : List Pr) : Prop where
  st : StoreIs w s F R H P q most last G
  z : R 0 = none
  sh : Short R
  at' : t.At R
  oat : old.At R
  kd : BT.Kd rd t
  nd : (t.hs ++ old.hs).Nodup
  prs : t.prs = l
  ris : Rising l
  len : H.length = 3 * l.length + old.hs.length
section
variable {w w' : World} {s : Nat} {F F' : Nat → Prop} {R R' : Nat → Option (List Nat)} {H H' : List Nat} {P q most last G : Nat} {rd : Bool} {t : BT} {old : Ln} {l : List Pr}
theorem PaIn.size (h : PaIn w s F R H P q most last G rd t old l) : t.size = l.length := by rw [← BT.prs_len, h.prs]
theorem PaIn.tree (h : PaIn w s F R H P q most last G rd t old l) : ∃ n, TreeR w.heap.size w s R n t l ∧ WordsR R H P n := treeIn h.st h.sh h.z h.at' h.prs h.ris (List.nodup_append.1 h.nd).1
theorem PaIn.below (h : PaIn w s F R H P q most last G rd t old l) (hb : Below w.heap.size w w') : PaIn w' s F R H P q most last G rd t old l :=
  ⟨h.st.below hb, h.z, h.sh, h.at', h.oat, h.kd, h.nd, h.prs, h.ris, h.len⟩
theorem PaIn.more (h : PaIn w s F R H P q most last G rd t old l) {P' G' : Nat} (hP : P ≤ P') (hG : G ≤ G') : PaIn w s F R H P' q most last G' rd t old l :=
  ⟨h.st.more hP hG, h.z, h.sh, h.at', h.oat, h.kd, h.nd, h.prs, h.ris, h.len⟩
theorem PaIn.start (h : StoreIs w s F (fun _ => none) [] P q most last G) (rd : Bool) : PaIn w s F (fun _ => none) [] P q most last G rd .nil .none [] :=
  ⟨h, rfl, (fun x ws e => by cases e), trivial, trivial, BT.Kd.nil rd, List.nodup_nil, rfl, List.Pairwise.nil, rfl⟩
/-- a leaf more: the tree lies as it lay, apart from the leaf -/
theorem PaIn.leaf (h : PaIn w s F R H P q most last G rd t .none l) {x kx vx m : Nat} {k v : ByteArray} (gm : GrowOut R R' (.node x kx vx m k v .nil .nil)) :
    R' 0 = none ∧ Short R' ∧ t.At R' ∧ BT.Lo R' x kx vx k v ∧ (t.hs ++ [x, kx, vx]).Nodup := by
  refine ⟨gm.zero h.z, gm.short h.sh, gm.on h.at', BT.lo gm.at', List.nodup_append.2 ⟨(List.nodup_append.1 h.nd).1, gm.nodup, fun a ha b hb e => ?_⟩⟩
  exact gm.off h.at' a ha (by rw [e]; exact hb)
theorem paLeafIns_at {w2 : World} {F2 : Nat → Prop} {R2 : Nat → Option (List Nat)} {H2 : List Nat} (h : PaIn w s F R H P q most last G rd t .none l) {x kx vx m : Nat} {k v : ByteArray} (gm : GrowOut R R2 (.node x kx vx m k v .nil .nil)) (hS : StoreIs w2 s F2 R2 H2 (P + 9) q most last (G + 3)) (hH : H2.length = H.length + 3) (sz : l.length ≤ 99) :
    Calls Tryz.prog 34 #[.pointer (some ⟨s, 0, none⟩), .int .i64 (kindZ rd), .int .u64 (t.root : Nat), .int .u64 (x : Nat)] w2 fun e w' => ∃ (t' : BT) (old : Ln) (R' : Nat → Option (List Nat)), e = .returned (.tuple #[.int .u64 (t'.root : Nat), .int .u64 (old.root : Nat), .int .i64 0]) ∧
      PaIn w' s F2 R' H2 (P + 9) q most last (G + 3) rd t' old (putL l (k, v)) ∧ (old.root ≠ 0 ↔ 0 ≤ findL l k) ∧ Turn w2 F2 w' F2 := by
  obtain ⟨z2, sh2, at2, lo2, nd2⟩ := h.leaf gm
  have hs := h.size
  refine (paInsT_at hS rd z2 sh2 at2 h.kd lo2 nd2 (by omega) (by rw [h.prs]; exact h.ris)).mono ?_
  rintro e w' ⟨t', old, R', he, o, ho, hk, hS', hT⟩
  rw [h.prs] at o ho
  refine ⟨t', old, R', he, ⟨hS', hk.zero z2, hk.short sh2, o.at', o.oat, o.kd, (o.hs.nodup_iff).2 nd2, o.prs, putL_rising h.ris _, ?_⟩, ho, hT⟩
  have h1 := o.hs.length_eq
  have h2 : t'.size = (putL l (k, v)).length := by rw [← BT.prs_len, o.prs]
  have h3 := h.len
  simp only [List.length_append, List.length_cons, List.length_nil, BT.hs_len] at h1
  rw [h2, hs] at h1
  simp only [Ln.hs, List.length_nil] at h3
  omega
theorem paDelIn_at (h : PaIn w s F R H P q most last G rd t .none l) (sz : l.length ≤ 99) (key : ByteArray) (hky : key.size ≤ 1000) :
    Calls Tryz.prog 40 #[.pointer (some ⟨s, 0, none⟩), .int .i64 (kindZ rd), .int .u64 (t.root : Nat), .string key] w fun e w' => ∃ (t' : BT) (old : Ln) (R' : Nat → Option (List Nat)), e = .returned (.tuple #[.int .u64 (t'.root : Nat), .int .u64 (old.root : Nat), .int .i64 0]) ∧
      PaIn w' s F R' H P q most last G rd t' old (if 0 ≤ findL l key then cutLn l (findL l key).toNat ((findL l key).toNat + 1) else l) ∧ (old.root ≠ 0 ↔ 0 ≤ findL l key) ∧ Turn w F w' F := by
  have hs := h.size
  have hnd := (List.nodup_append.1 h.nd).1
  refine (paDelT_at h.st rd h.z h.sh h.at' h.kd hnd (by omega) (by rw [h.prs]; exact h.ris) key hky).mono ?_
  rintro e w' ⟨t', old, R', he, o, ho, hk, hS', hT⟩
  rw [h.prs] at o ho
  refine ⟨t', old, R', he, ⟨hS', hk.zero h.z, hk.short h.sh, o.at', o.oat, o.kd, (o.hs.nodup_iff).2 hnd, o.prs, ?_, ?_⟩, ho, hT⟩
  · split
    · unfold cutLn
      refine List.Pairwise.sublist ?_ h.ris
      have h1 := List.take_append_drop (findL l key).toNat l
      conv => rhs; rw [← h1]
      refine List.Sublist.append (List.Sublist.refl _) ?_
      rw [← List.drop_drop, Nat.add_comm] at *
      exact List.drop_sublist _ _
    · exact h.ris
  · have h1 := o.hs.length_eq
    have h2 : t'.size = t'.prs.length := (BT.prs_len t').symm
    have h3 := h.len
    simp only [List.length_append, BT.hs_len] at h1
    rw [h2, o.prs, hs] at h1
    simp only [Ln.hs, List.length_nil] at h3
    omega
/-- the node alone is dropped -/
theorem paDropIn_at (h : PaIn w s F R H P q most last G rd t old l) :
    Calls Tryz.prog 47 #[.pointer (some ⟨s, 0, none⟩), .int .u64 (old.root : Nat)] w fun e w' => ∃ F' R' H', e = .returned (.tuple #[]) ∧ PaIn w' s F' R' H' P q most last G rd t .none l ∧ Turn w F w' F' := by
  obtain ⟨n1, n2, n3⟩ := List.nodup_append.1 h.nd
  refine (paDrop_at h.st h.sh h.z old h.oat n2).mono ?_
  rintro e w' ⟨F', H', he, hS, hl, hT⟩
  refine ⟨F', _, H', he, ⟨hS, dropR_zero h.z, h.sh.drop _, h.at'.congr fun x hx => dropR_out (fun hm => n3 x hx x hm rfl), trivial, h.kd, ?_, h.prs, h.ris, ?_⟩, hT⟩
  · simpa [Ln.hs] using n1
  · have := h.len
    simp only [Ln.hs, List.length_nil]
    omega
end
end Go.Proofs.YtjpmlneihbckpaaGreatDoor
/- loftlaw14.awake. -/
set_option linter.unusedVariables false
set_option linter.unusedSimpArgs false
namespace Go.Proofs.YtjpmlneihbckpaaGreatDoor
open Go.RowKit Go.Shelf
def four : List Pr := [(⟨#[97]⟩, ⟨#[]⟩), (⟨#[98]⟩, ⟨#[]⟩), (⟨#[99]⟩, ⟨#[]⟩), (⟨#[100]⟩, ⟨#[]⟩)]
def prBB : ByteArray := ⟨#[98, 98]⟩
theorem four_put : ∀ k (h : k < 4), putL (four.take k) (four[k]'h) = four.take (k + 1) ∧ ¬ 0 ≤ findL (four.take k) (four[k]'h).1 ∧ (four[k]'h).1.size ≤ 1000 ∧ (four[k]'h).2.size ≤ 1000 := by decide +kernel
theorem four_bb : rankL four prBB = 2 ∧ (four[rankL four prBB]?).map (·.1) ≠ some prBB := by decide +kernel
set_option maxHeartbeats 4000000 in
set_option maxRecDepth 100000 in
theorem awake14_at {w : World} (hT : Tab w) : Calls Tryz.prog 33 #[] w fun e w' => e = .returned (.bool true) ∧ Below w.heap.size w w' := by
  have hN := Lib.hid (snew_at hT 262144 1000 4294967295 (by omega) (by omega) (by omega) (by omega) (by omega))
  clear hT
  go_enter Tryz.func33, Tryz.ntmps33
  go_wp2_with fail
  refine hN.out.mono ?_
  rintro e w1 ⟨s, F, rfl, hS, hs1, hF1, hb1⟩
  have hb1H := Lib.hid hb1
  have hF1H := Lib.hid hF1
  have hSH := Lib.hid hS
  have hz1 := hb1.size
  clear hb1 hF1 hS hN
  go_wp2_with fail
  obtain ⟨W2, hW2⟩ : ∃ W, W = w1.alloc (Obj.cells #[.string ⟨#[97]⟩, .string ⟨#[]⟩, .string ⟨#[98]⟩, .string ⟨#[]⟩, .string ⟨#[99]⟩, .string ⟨#[]⟩, .string ⟨#[100]⟩, .string ⟨#[]⟩] 46) := ⟨_, rfl⟩
  obtain ⟨b2, hb2e⟩ : ∃ b, b = w1.heap.size := ⟨_, rfl⟩
  have hX2 : Box W2 b2 46 [.string ⟨#[97]⟩, .string ⟨#[]⟩, .string ⟨#[98]⟩, .string ⟨#[]⟩, .string ⟨#[99]⟩, .string ⟨#[]⟩, .string ⟨#[100]⟩, .string ⟨#[]⟩] := by rw [hW2, hb2e]; exact Box.new w1 46 [.string ⟨#[97]⟩, .string ⟨#[]⟩, .string ⟨#[98]⟩, .string ⟨#[]⟩, .string ⟨#[99]⟩, .string ⟨#[]⟩, .string ⟨#[100]⟩, .string ⟨#[]⟩]
  have hcf2 : CellsF W2 F (some ⟨b2, 0, none⟩) (prsV four) := .inr ⟨b2, 0, rfl, hX2.lt, fun hf => by have := hSH.out.lt hf; omega, fun j u hu => by
    rw [Nat.zero_add]
    exact hX2.at' hu⟩
  have hb2 : Below w1.heap.size w1 W2 := by rw [hW2]; exact (Below.refl _ _).alloc (Nat.le_refl _) _
  have hSt2 : Hid (PaIn W2 s F (fun _ => none) [] 0 262144 1000 4294967295 0 false .nil .none []) := Lib.hid (PaIn.start (hSH.out.below hb2) false)
  have hcf2H := Lib.hid hcf2
  have hB2H := Lib.hid (hb1H.out.trans (hb2.mono hb1H.out.size))
  rw [← hW2, ← hb2e]
  clear hX2 hcf2 hb2 hW2 hb2e hSH hz1 hb1H
  go_loopw [3, 5] (fun rv iv wr => ∃ (k : Nat) (t : BT) (F' : Nat → Prop) (R' : Nat → Option (List Nat)) (H' : List Nat), k ≤ 4 ∧ iv = .int .i64 k ∧ rv = .int .u64 (t.root : Nat) ∧ Hid (PaIn wr s F' R' H' (9 * k) 262144 1000 4294967295 (3 * k) false t .none (four.take k)) ∧ Hid (Turn W2 F wr F')) (fun _ iv _ => 4 - (intOf iv).toNat)
  case atStart => exact ⟨0, .nil, F, _, [], by omega, rfl, rfl, by simpa using hSt2, Lib.hid (Turn.refl _ _)⟩
  case round =>
    obtain ⟨k, t, F', R', H', hk, rfl, rfl, hst, hT'⟩ := hrel
    by_cases hlt : k < 4
    · obtain ⟨bb, oo, hAs, q1, q2⟩ := (hcf2H.out.turn hT'.out).pairs (k := k) hlt
      obtain ⟨hput, hfnd, z1, z2⟩ := four_put k hlt
      obtain ⟨p, hp⟩ : ∃ p, four[k]'hlt = p := ⟨_, rfl⟩
      rw [hp] at hput hfnd z1 z2
      simp only [hp] at q1 q2
      have hlen := hst.out.len
      have htk : (four.take k).length = k := by rw [List.length_take]; exact Nat.min_eq_left hk
      rw [htk] at hlen
      simp only [Ln.hs, List.length_nil, Nat.add_zero] at hlen
      have hLf := leaf14_at hst.out.st p z1 z2 (by omega) (by omega) (by omega)
      have hLfH := Lib.hid hLf
      have hputH := Lib.hid hput
      have hfndH := Lib.hid hfnd
      have htkH := Lib.hid htk
      cases hAs
      simp only [Nat.zero_add] at q1 q2
      clear hLf hput hfnd hp hlen htk
      go_wp2_with fail
      refine hLfH.out.mono ?_
      rintro e w3 ⟨x, kx, vx, F2, R2, H2, rfl, gm, hS2, hH2, hT2, hx64⟩
      have hI : Calls Tryz.prog 34 #[.pointer (some ⟨s, 0, none⟩), .int .i64 1, .int .u64 (t.root : Nat), .int .u64 (x : Nat)] w3 _ := paLeafIns_at hst.out gm hS2 hH2 (by have := htkH.out; omega)
      have hIH := Lib.hid hI
      have hT2H := Lib.hid (hT'.out.trans hT2)
      clear gm hS2 hH2 hT2 hI q1 q2 hLfH
      go_wp2_with fail
      refine hIH.out.mono ?_
      rintro e w4 ⟨t', old, R4, rfl, hst4, ho, hT4⟩
      have h0 : old.root = 0 := by
        by_cases h : old.root = 0
        · exact h
        · exact absurd (ho.1 h) (by have := hfndH.out; omega)
      have hold : old = .none := by
        cases old with
        | none => rfl
        | one y _ _ _ _ => exact absurd h0 hst4.oat.nz
      subst hold
      have hst4' : PaIn w4 s F2 R4 H2 (9 * (k + 1)) 262144 1000 4294967295 (3 * (k + 1)) false t' .none (four.take (k + 1)) := by
        have := hst4.more (P' := 9 * (k + 1)) (G' := 3 * (k + 1)) (by omega) (by omega)
        rw [hputH.out] at this
        exact this
      have hst4H := Lib.hid hst4'
      have hT4H := Lib.hid (hT2H.out.trans hT4)
      clear hst4 hst4' ho hT4 hIH h0
      go_wp2
      go_roundw
      case rel => exact ⟨k + 1, t', F2, R4, H2, by omega, by go_num, rfl, hst4H, hT4H⟩
      case measure => simp [intOf]; omega
    · obtain rfl : k = 4 := by omega
      have hst' : PaIn wr s F' R' H' 36 262144 1000 4294967295 12 false t .none four := hst.out
      have hSp : Calls Tryz.prog 37 #[.pointer (some ⟨s, 0, none⟩), .int .i64 1, .int .u64 (t.root : Nat), .string prBB] wr _ := paSplT_at hst'.st false hst'.z hst'.sh hst'.at' hst'.kd (List.nodup_append.1 hst'.nd).1 (by have := hst'.size; rw [this]; decide) prBB (by decide)
      unfold prBB at hSp
      have hSpH := Lib.hid hSp
      have hstH := Lib.hid hst'
      clear hst hst' hSp
      go_wp2_with fail
      refine hSpH.out.mono ?_
      rintro e w5 ⟨l, m, r, R5, rfl, o, hk5, hS5, hT5⟩
      have hpt := o.parted (by rw [hstH.out.prs]; exact hstH.out.ris)
      rw [hstH.out.prs] at hpt
      have e1 := hpt.rank
      have e2 := mt hpt.has.2 four_bb.2
      have e3 : m.root = 0 := by
        by_cases h : m.root = 0
        · exact h
        · exact absurd ((Ln.root_ne o.ma).1 h) e2
      have e4 : m.prs = [] := List.eq_nil_of_length_eq_zero (by have := m.prs_len; omega)
      have e5 : l.prs.length = 2 := by rw [← e1]; exact four_bb.1
      have e6 : l.prs = four.take 2 ∧ r.prs = four.drop 2 := by
        rw [← hpt.app, e4, ← e5, List.nil_append]
        exact ⟨(List.take_left ..).symm, (List.drop_left ..).symm⟩
      rw [e3]
      have z5 : R5 0 = none := hk5.zero hstH.out.z
      have sh5 : Short R5 := hk5.short hstH.out.sh
      have nd5 : (l.hs ++ (m.hs ++ r.hs)).Nodup := by rw [o.hs]; exact (List.nodup_append.1 hstH.out.nd).1
      have rr : Rising (l.prs ++ (m.prs ++ r.prs)) := by rw [o.prs, hstH.out.prs]; exact hstH.out.ris
      obtain ⟨nl, hTl, -⟩ := treeIn hS5 sh5 z5 o.la e6.1 (by rw [← e6.1]; exact rising_left rr) (List.nodup_append.1 nd5).1
      obtain ⟨nr, hTr, -⟩ := treeIn hS5 sh5 z5 o.ra e6.2 (by rw [← e6.2]; exact rising_right (rising_right rr)) (List.nodup_append.1 (List.nodup_append.1 nd5).2.1).2.1
      have hcf5 := hcf2H.out.turn (hT'.out.trans hT5)
      obtain ⟨A5, sl1, sl2, hdr, -⟩ := slice_fromF (some ⟨b2, 0, none⟩) 4 2 4 (by omega) (by omega)
      have hc2 := hdr w5 F' four rfl hcf5
      have hI1 : Calls Tryz.prog 36 #[.pointer (some ⟨s, 0, none⟩), .int .i64 1, .int .u64 (l.root : Nat), .slice (some ⟨b2, 0, none⟩) 2 4] w5 _ := paIs_at (c := 4) hTl false o.lk (hcf5.take' 2)
      have hI2 : ∀ W, Below w5.heap.size w5 W → Calls Tryz.prog 36 #[.pointer (some ⟨s, 0, none⟩), .int .i64 1, .int .u64 (r.root : Nat), .slice A5 2 2] W _ := fun W hb => paIs_at (c := 2) (hTr.below hb) false o.rk (hc2.turn (Turn.below hb))
      have hI1H := Lib.hid hI1
      have hI2H := Lib.hid hI2
      have hbw := Lib.hid (hB2H.out.trans ((hT'.out.trans hT5).to_below hB2H.out.size hF1H.out))
      clear hpt e1 e2 e3 e4 e5 e6 z5 sh5 nd5 rr hTl hTr hcf5 hdr hc2 hI1 hI2 o hk5 hS5 hT5 hSpH
      push_cast at sl1 sl2
      go_wp2_with fail
      refine hI1H.out.mono ?_
      rintro e w6 ⟨rfl, hb6⟩
      have hb6H := Lib.hid hb6
      clear hb6
      go_wp2_with fail
      refine (hI2H.out _ hb6H.out).mono ?_
      rintro e w7 ⟨rfl, hb7⟩
      have hb7H := Lib.hid (hbw.out.trans ((hb6H.out.trans (hb7.mono hb6H.out.size)).mono hbw.out.size))
      clear hb7
      go_wp2
      go_ret
      exact ⟨rfl, hb7H.out⟩
end Go.Proofs.YtjpmlneihbckpaaGreatDoor
/- What the laws of parts share: rising pairs put one by one; kinds. -/
set_option linter.unusedVariables false
set_option linter.unusedSimpArgs false
namespace Go.Proofs.YtjpmlneihbckpaaGreatDoor
open Go.RowKit Go.Shelf
theorem rise_parted {m : List Pr} (hr : Rising m) {k : Nat} (hk : k < m.length) : Parted (m.take k) m[k].1 (m.take k) [] [] := by
  refine ⟨by simp, (fun p hp => ?_), (fun p hp => by cases hp), by simp, (fun p hp => by cases hp)⟩
  have hr' : Rising (m.take k ++ m.drop k) := by rw [List.take_append_drop]; exact hr
  have hd : m.drop k = m[k] :: m.drop (k + 1) := List.drop_eq_getElem_cons hk
  rw [hd] at hr'
  have hmem : m[k] ∈ m[k] :: m.drop (k + 1) := List.mem_cons_self
  exact (List.pairwise_append.1 hr').2.2 p hp m[k] hmem
theorem rise_put {m : List Pr} (hr : Rising m) {k : Nat} (hk : k < m.length) : putL (m.take k) m[k] = m.take (k + 1) ∧ ¬ 0 ≤ findL (m.take k) m[k].1 := by
  have hp := rise_parted hr hk
  refine ⟨?_, ?_⟩
  · have := hp.put (v := m[k].2)
    rw [List.take_succ_eq_append_getElem hk]
    exact this
  · rw [hp.find]
    simp
theorem CellsF.own {w : World} {F : Nat → Prop} {base c : Nat} {A : Option Addr} {l : List Pr} (h : w.ownsRow base 46 2 (.slice A l.length c) l.length (prsV l)) (hp : Prs w w.heap.size A l) (hF : ∀ b, F b → b < base) : CellsF w F A (prsV l) := by
  rcases hp with h1 | ⟨b, o, h1, h2, h3⟩
  · rw [h1]; exact .inl rfl
  · refine .inr ⟨b, o, h1, h2, fun hf => ?_, h3⟩
    have h4 := hF b hf
    have h5 := (own2_lt h (k := b) (by rw [h1]; rfl)).1
    omega
theorem BT.nil_of {t : BT} (h : t.prs = []) : t = .nil := by
  cases t with
  | nil => rfl
  | node x kx vx m k v l r => simp [BT.prs] at h
theorem kind_of {k : Int} (h1 : ¬ k < 1) (h2 : ¬ 2 < k) : ∃ rd, k = kindZ rd := by
  have : k = 1 ∨ k = 2 := by omega
  rcases this with rfl | rfl
  · exact ⟨false, rfl⟩
  · exact ⟨true, rfl⟩
theorem kindZ_ok (rd : Bool) : decide (kindZ rd < 1) = false ∧ decide (2 < kindZ rd) = false := by cases rd <;> exact ⟨rfl, rfl⟩
theorem Ln.none_of {R : Nat → Option (List Nat)} {m : Ln} (h : m.At R) (h0 : m.root = 0) : m = .none := by
  cases m with
  | none => rfl
  | one y _ _ _ _ => exact absurd h0 h.nz
end Go.Proofs.YtjpmlneihbckpaaGreatDoor
/- What the claims of layer 14 share. -/
set_option linter.unusedVariables false
namespace Go.Proofs.YtjpmlneihbckpaaGreatDoor
theorem paBase_stands : True := trivial
end Go.Proofs.YtjpmlneihbckpaaGreatDoor

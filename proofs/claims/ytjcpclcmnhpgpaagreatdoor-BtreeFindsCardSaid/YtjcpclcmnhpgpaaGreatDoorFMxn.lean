/-
  The seat's own texts, part xn: BtWD, BtWE, BtWF.
-/
import Derived.Test.YtjcpclcmnhpgpaaGreatDoorFMxl
import Derived.Test.YtjcpclcmnhpgpaaGreatDoorFMxm

set_option linter.unusedVariables false
set_option linter.unusedSimpArgs false
namespace Go.Proofs.YtjcpclcmnhpgpaaGreatDoor
open Go.RowKit Go.Shelf
section
variable {s : Nat} {F F' : Nat → Prop} {R R' : Nat → Option (List Nat)} {H H' : List Nat} {P q most last G : Nat}
theorem StoreIs.grown {A B : World} {row : Option Nat} (h : StoreIs A s F R H P q most last G) (hg : A.grownBy B row) (hr : ∀ k, row = some k → s < k ∧ 1 < k ∧ ¬ F k ∧ ∀ p, A.cell? ⟨k, 0, none⟩ ≠ some (.pointer p)) : StoreIs B s F R H P q most last G :=
  h.kb (Cs := fun k => row = some k) ⟨hg.size, fun k o hk _ hn => (hg.block k (Array.getElem?_eq_some_iff.1 hk).1 (fun e => hn e.symm)).trans hk⟩ (fun k hk => (hr k hk).2.2.1) (fun hk => Nat.lt_irrefl _ (hr s hk).1) (fun k hk => (hr k hk).2.2.2) (fun hk => Nat.lt_irrefl _ (hr _ hk).2.1)
theorem grown_set (W : World) (b j : Nat) (v : Value) : W.grownBy (W.setCell ⟨b, j, none⟩ v) (some b) :=
  ⟨rfl, rfl, rfl, by simp [World.setCell], fun k _ hn => Below.heap_setCell W ⟨b, j, none⟩ v k (fun e => hn (by rw [e]))⟩
theorem grownBy_below {A B : World} (hb : Below A.heap.size A B) (row : Option Nat) : A.grownBy B row := ⟨hb.os, hb.tape, hb.output, hb.size, fun k hk _ => hb.block k hk⟩
theorem grown_trans {A B C : World} {row : Option Nat} (h : A.grownBy B row) (g : B.grownBy C row) : A.grownBy C row := ⟨g.os.trans h.os, g.tape.trans h.tape, g.output.trans h.output, Nat.le_trans h.size g.size, fun k hk hn => (g.block k (Nat.lt_of_lt_of_le hk h.size) hn).trans (h.block k hk hn)⟩
theorem row_cell0 {W : World} {B : Nat} {v : Value} {l : List Nat} (h : W.ownsRow B 31 1 v l.length (hsV l)) (hl : l ≠ []) : ∀ k, v.ownBlock = some k → ∀ p, W.cell? ⟨k, 0, none⟩ ≠ some (.pointer p) := by
  intro k hk p hc
  cases l with
  | nil => exact hl rfl
  | cons x l =>
    have h1 := h.cells hk 0 (.int .u64 (x : Nat)) rfl
    rw [Addr.add_lit] at h1
    have h2 : W.cell? ⟨k, 0, none⟩ = some (.int .u64 (x : Nat)) := h1
    rw [h2] at hc
    cases hc
structure Mk (N : Nat) (W : World) (s t : Nat) (F : Nat → Prop) (bl b2 : Nat) (v : Value) (st : List Nat) : Prop where
  bx : Box W bl 51 [v]
  b2x : Box W b2 88 [.pointer (some ⟨s, 0, none⟩), .int .i64 (t : Nat)]
  row : W.ownsRow N 31 1 v st.length (hsV st)
  nil : st = [] → v = .slice none 0 0
  fl : ¬ F bl
  f2 : ¬ F b2
  fr : ∀ k, v.ownBlock = some k → k ≠ bl ∧ k ≠ b2 ∧ ¬ F k
theorem Mk.turn {N t bl b2 : Nat} {W W' : World} {v : Value} {st : List Nat} (h : Mk N W s t F bl b2 v st) (ht : Turn W F W' F') : Mk N W' s t F' bl b2 v st :=
  ⟨h.bx.turn ht h.fl, h.b2x.turn ht h.f2, rows_keep h.row fun k hk => ht.keep k (rows_lt h.row k hk) (h.fr k hk).2.2, h.nil, ht.not h.bx.lt h.fl, ht.not h.b2x.lt h.f2, fun k hk => ⟨(h.fr k hk).1, (h.fr k hk).2.1, ht.not (rows_lt h.row k hk) (h.fr k hk).2.2⟩⟩
theorem Mk.below {N t bl b2 : Nat} {W W' : World} {v : Value} {st : List Nat} (h : Mk N W s t F bl b2 v st) (hF : ∀ b, F b → b < W.heap.size) (hb : Below W.heap.size W W') : Mk N W' s t F bl b2 v st := h.turn (Turn.below hb)
theorem Mk.more {N t bl b2 : Nat} {W w3 : World} {tmp : Obj} {v v' : Value} {st : List Nat} {x : Nat} (h : Mk N W s t F bl b2 v st) (hne : bl ≠ b2) (hF : ∀ b, F b → b < W.heap.size) (ho : w3.ownsRow N 31 1 v' (st ++ [x]).length (hsV (st ++ [x]))) (hg : (W.alloc tmp).grownBy w3 v.ownBlock) (hb : v'.ownBlock = v.ownBlock ∨ v'.ownBlock = some (W.alloc tmp).heap.size) :
    Mk N (w3.setCell ⟨bl, 0, none⟩ v') s t F bl b2 v' (st ++ [x]) := by
  have hbl : some bl ≠ v.ownBlock := fun e => (h.fr bl e.symm).1 rfl
  have hb2 : some b2 ≠ v.ownBlock := fun e => (h.fr b2 e.symm).2.1 rfl
  have k1 : Box w3 bl 51 [v] := h.bx.block ((hg.block bl (by have := h.bx.lt; simp; omega) hbl).trans (Below.heap_alloc W tmp bl h.bx.lt))
  have k2 : Box w3 b2 88 _ := h.b2x.block ((hg.block b2 (by have := h.b2x.lt; simp; omega) hb2).trans (Below.heap_alloc W tmp b2 h.b2x.lt))
  have hnew : ∀ k, v'.ownBlock = some k → k ≠ bl ∧ k ≠ b2 ∧ ¬ F k := fun k hk => by
    rcases hb with hb | hb
    · exact h.fr k (by rw [← hb]; exact hk)
    · rw [hb] at hk
      have : W.heap.size + 1 = k := by simpa using hk
      refine ⟨fun e => ?_, fun e => ?_, fun hf => ?_⟩
      · have := h.bx.lt; omega
      · have := h.b2x.lt; omega
      · have := hF k hf; omega
  refine ⟨k1.set 0 v', k2.other (p := ⟨bl, 0, none⟩) (Ne.symm hne) v', rows_keep ho fun k hk => Below.heap_setCell w3 ⟨bl, 0, none⟩ v' k (hnew k hk).1, fun e => by simp at e, h.fl, h.f2, hnew⟩
theorem Mk.store {N t bl b2 : Nat} {W w3 : World} {tmp : Obj} {v v' : Value} {st : List Nat} {x : Nat} (h : Mk N W s t F bl b2 v st) (hs : StoreIs W s F R H P q most last G) (hN : s < N ∧ 1 < N) (hbN : N ≤ bl) (hg : (W.alloc tmp).grownBy w3 v.ownBlock) : StoreIs (w3.setCell ⟨bl, 0, none⟩ v') s F R H P q most last G := by
  have hba : Below W.heap.size W (W.alloc tmp) := (Below.refl _ W).alloc (Nat.le_refl _) _
  have h1 : StoreIs w3 s F R H P q most last G := (hs.below hba).grown hg (fun k hk => by
    have hkN := (row_ge h.row hk).1
    refine ⟨by omega, by omega, (h.fr k hk).2.2, fun p hc => ?_⟩
    have hst : st ≠ [] := fun e => by rw [h.nil e] at hk; simp [Value.ownBlock] at hk
    rw [World.cell?_of_block (Below.heap_alloc W tmp k (rows_lt h.row k hk))] at hc
    exact row_cell0 h.row hst k hk p hc)
  have hbl : some bl ≠ v.ownBlock := fun e => (h.fr bl e.symm).1 rfl
  have k1 : Box w3 bl 51 [v] := h.bx.block ((hg.block bl (by have := h.bx.lt; simp; omega) hbl).trans (Below.heap_alloc W tmp bl h.bx.lt))
  refine h1.grown (grown_set w3 bl 0 v') (fun k hk => ?_)
  obtain rfl : bl = k := Option.some.inj hk
  refine ⟨by omega, by omega, h.fl, fun p hc => ?_⟩
  rw [k1.at' (i := 0) rfl] at hc
  obtain ⟨A, c, hv⟩ := ownsRow_form h.row
  rw [hv] at hc
  cases hc
theorem Bt.Fresh.snoc {t : Nat} {st : List Nat} {x : Nat} {n : BN} (h : Bt.Fresh R R' t st) (hx : R' x = none) (h0 : x ≠ 0) : Bt.Fresh R (updR R' x (some (n.wd t))) t (st ++ [x]) := by
  have hxs : x ∉ st := fun hm => by obtain ⟨_, _, ws, h1, _⟩ := h.new x hm; rw [hx] at h1; cases h1
  refine ⟨fun y hy => ?_, ?_, fun z hz => ?_⟩
  · rcases List.mem_append.1 hy with hy | hy
    · exact ⟨(h.new y hy).1, (h.new y hy).2.1, Bt.upd_rec (h.new y hy).2.2⟩
    · rw [List.mem_singleton] at hy
      subst hy
      exact ⟨by rw [← h.old y hxs]; exact hx, h0, ⟨_, updR_same _ _ _, BN.wd_len _ _⟩⟩
  · rw [List.nodup_append]
    exact ⟨h.nodup, by simp, fun a ha b hb e => by rw [List.mem_singleton] at hb; exact hxs (by rw [← hb, ← e]; exact ha)⟩
  · rw [List.mem_append, List.mem_singleton, not_or] at hz
    rw [updR_other hz.2]; exact h.old z hz.1
theorem Bt.Fresh.start {t : Nat} : Bt.Fresh R R t [] := ⟨fun x hx => absurd hx (by simp), List.nodup_nil, fun _ _ => rfl⟩
def MkR (w : World) (s : Nat) (F : Nat → Prop) (R : Nat → Option (List Nat)) (H : List Nat) (P q most last G t n : Nat) (e : Ending) (w' : World) : Prop :=
  (∃ st F' R' bl b2 v, e = .returned (.tuple #[.func (.func 74) #[] #[.pointer (some ⟨bl, 0, none⟩), .pointer (some ⟨b2, 0, none⟩)], .int .i64 0]) ∧ st.length = n ∧ Bt.Fresh R R' t st ∧ (∀ x ∈ st, R' x = some (BN.zero.wd t) ∧ x < 18446744073709551616) ∧
    StoreIs w' s F' R' (st.reverse ++ H) (P + n * pgsN (6 * t + 2)) q most last (G + n) ∧ Turn w F w' F' ∧ Mk w.heap.size w' s t F' bl b2 v st ∧ w.heap.size ≤ bl ∧ w.heap.size ≤ b2 ∧ bl ≠ b2) ∨
  (∃ er F', e = .returned (.tuple #[.nilFunc, .int .i64 (er : Nat)]) ∧ ((er = 3 ∧ q < (P + n * pgsN (6 * t + 2)) * 64) ∨ (er = 10 ∧ (most < H.length + n ∨ last < G + n))) ∧ StoreIs w' s F' R H (P + n * pgsN (6 * t + 2)) q most last (G + n) ∧ Turn w F w' F')
def dropF (R : Nat → Option (List Nat)) (st : List Nat) : Nat → Option (List Nat) := fun y => if y ∈ st then none else R y
theorem dropF_nil : dropF R [] = R := by funext y; simp [dropF]
theorem dropF_snoc (l : List Nat) (x : Nat) : updR (dropF R l) x none = dropF R (l ++ [x]) := by
  funext y
  unfold updR dropF
  by_cases h : y = x
  · subst h; simp
  · simp [h]
theorem dropF_fresh {t : Nat} {st : List Nat} (h : Bt.Fresh R R' t st) : dropF R' st = R := by
  funext y
  unfold dropF
  by_cases hy : y ∈ st
  · rw [if_pos hy]; exact (h.new y hy).1.symm
  · rw [if_neg hy]; exact h.old y hy
theorem erase_one {st H : List Nat} {x : Nat} (hx : x ∉ st) : ((x :: st).reverse ++ H).erase x = st.reverse ++ H := by
  rw [List.reverse_cons, List.append_assoc, List.erase_append_right _ (by simpa using hx)]
  simp
end
end Go.Proofs.YtjcpclcmnhpgpaaGreatDoor

set_option linter.unusedVariables false
set_option linter.unusedSimpArgs false
namespace Go.Proofs.YtjcpclcmnhpgpaaGreatDoor
open Go.RowKit Go.Shelf
theorem bnv_zero (w : World) (F : Nat → Prop) : BNV w F (.agg #[.slice none 0 0, .slice none 0 0, .slice none 0 0, .int .u64 0]) BN.zero :=
  ⟨⟨none, 0, none, 0, none, 0, rfl, .inl rfl, .inl rfl, .inl rfl⟩, by simp [BN.zero]⟩
theorem bn_zero_ok : BN.zero.Ok := ⟨fun x h => by simp [BN.zero] at h, fun x h => by simp [BN.zero] at h, fun x h => by simp [BN.zero] at h, by simp [BN.zero]⟩
theorem bn_zero_fits (t : Nat) : BN.zero.Fits t := ⟨by simp [BN.zero], rfl, .inl rfl⟩
section
variable {s : Nat} {F : Nat → Prop} {R : Nat → Option (List Nat)} {H : List Nat} {P q most last G : Nat}
set_option maxHeartbeats 16000000 in
set_option maxRecDepth 100000 in
theorem btMaker_at {w : World} (h : StoreIs w s F R H P q most last G) (t : Nat) (ht : BN.Deg t) (n : Nat) (hn : n ≤ 1000) :
    Calls Tryz.prog 41 #[.agg #[.pointer (some ⟨s, 0, none⟩), .int .i64 (t : Nat)], .int .i64 (n : Nat)] w (MkR w s F R H P q most last G t n) := by
  have hsN := h.s_lt
  have htN : 1 < w.heap.size := by
    obtain ⟨nn, hrd, _⟩ := h.rd
    obtain ⟨_, _, _, _, _, _, _, _, _, _, _, _, _, _, _, _, _, _, _, h4⟩ := hrd
    exact h4.2
  obtain ⟨i0, hi, hz0, hz1, hz2⟩ := info_parts Tryz.info_handle
  obtain ⟨W0, hW0⟩ : ∃ W, W = (w.alloc (Obj.cells #[.pointer (some ⟨s, 0, none⟩), .int .i64 (t : Nat)] 88)).alloc (Obj.cells #[.slice none 0 0] 51) := ⟨_, rfl⟩
  have hb0 : Below w.heap.size w W0 := by rw [hW0]; exact ((Below.refl _ w).alloc (Nat.le_refl _) _).alloc (by simp) _
  obtain ⟨b2, hb2⟩ : ∃ b, b = w.heap.size := ⟨_, rfl⟩
  obtain ⟨bl, hbl⟩ : ∃ b, b = w.heap.size + 1 := ⟨_, rfl⟩
  have x2 : Box W0 b2 88 [.pointer (some ⟨s, 0, none⟩), .int .i64 (t : Nat)] := by rw [hW0, hb2]; exact (Box.new w 88 [.pointer (some ⟨s, 0, none⟩), .int .i64 (t : Nat)]).alloc _
  have xl : Box W0 bl 51 [.slice none 0 0] := by
    rw [hW0, hbl]
    have := Box.new (w.alloc (Obj.cells #[.pointer (some ⟨s, 0, none⟩), .int .i64 (t : Nat)] 88)) 51 [.slice none 0 0]
    rwa [show (w.alloc (Obj.cells #[.pointer (some ⟨s, 0, none⟩), .int .i64 (t : Nat)] 88)).heap.size = w.heap.size + 1 by simp] at this
  have g2 : w.heap.size ≤ b2 := by omega
  have gl : w.heap.size ≤ bl := by omega
  have hne : bl ≠ b2 := by omega
  have hF0 : ∀ b, F b → b < w.heap.size := fun b hb => h.lt hb
  have hmk0 : Mk w.heap.size W0 s t F bl b2 (.slice none 0 0) [] := ⟨xl, x2, World.ownsRow_nil _ _ _ _, fun _ => rfl, fun hf => by have := hF0 _ hf; omega, fun hf => by have := hF0 _ hf; omega, fun k hk => by simp [Value.ownBlock] at hk⟩
  obtain ⟨pg, hpg⟩ : ∃ pg, pg = pgsN (6 * t + 2) := ⟨_, rfl⟩
  have hst0 : Hid (Bt.Fresh R R t [] ∧ (∀ x ∈ ([] : List Nat), R x = some (BN.zero.wd t) ∧ x < 18446744073709551616) ∧ StoreIs W0 s F R H (P + 0 * pg) q most last (G + 0) ∧ Turn w F W0 F ∧ Mk w.heap.size W0 s t F bl b2 (.slice none 0 0) []) := Lib.hid ⟨Bt.Fresh.start, fun x hx => absurd hx (by simp), by rw [Nat.zero_mul]; exact h.below hb0, Turn.below hb0, hmk0⟩
  have hdef : Hid (∀ e W, ((∃ st F' R' bl b2 v, e = .returned (.tuple #[.func (.func 74) #[] #[.pointer (some ⟨bl, 0, none⟩), .pointer (some ⟨b2, 0, none⟩)], .int .i64 0]) ∧ st.length = n ∧ Bt.Fresh R R' t st ∧ (∀ x ∈ st, R' x = some (BN.zero.wd t) ∧ x < 18446744073709551616) ∧ StoreIs W s F' R' (st.reverse ++ H) (P + n * pg) q most last (G + n) ∧ Turn w F W F' ∧ Mk w.heap.size W s t F' bl b2 v st ∧ w.heap.size ≤ bl ∧ w.heap.size ≤ b2 ∧ bl ≠ b2) ∨
    (∃ er F', e = .returned (.tuple #[.nilFunc, .int .i64 (er : Nat)]) ∧ ((er = 3 ∧ q < (P + n * pg) * 64) ∨ (er = 10 ∧ (most < H.length + n ∨ last < G + n))) ∧ StoreIs W s F' R H (P + n * pg) q most last (G + n) ∧ Turn w F W F')) → MkR w s F R H P q most last G t n e W) := Lib.hid (fun e W h => by unfold MkR; rw [← hpg]; exact h)
  have hWH := Lib.hid (And.intro hW0 (And.intro hb2 hbl))
  have hpgH := Lib.hid hpg
  have hF0H := Lib.hid hF0
  clear h hW0 hb0 hb2 hbl x2 xl hmk0 hpg hF0
  go_enter Tryz.func41, Tryz.ntmps41
  go_wp2
  rw [← hWH.out.1, ← hWH.out.2.2, ← hWH.out.2.1]
  go_loopw [12] (fun iv wr => ∃ (i : Nat) (st : List Nat) (v : Value) (F1 : Nat → Prop) (R1 : Nat → Option (List Nat)), i ≤ n ∧ iv = .int .i64 (i : Nat) ∧ st.length = i ∧ Hid (Bt.Fresh R R1 t st ∧ (∀ x ∈ st, R1 x = some (BN.zero.wd t) ∧ x < 18446744073709551616) ∧ StoreIs wr s F1 R1 (st.reverse ++ H) (P + i * pg) q most last (G + i) ∧ Turn w F wr F1 ∧ Mk w.heap.size wr s t F1 bl b2 v st)) (fun iv _ => n - (intOf iv).toNat)
  case atStart => exact ⟨0, [], .slice none 0 0, F, R, Nat.zero_le _, rfl, rfl, hst0⟩
  case round =>
    obtain ⟨i, st, v, F1, R1, hi1, rfl, hsl, hst⟩ := hrel
    have hslH := Lib.hid hsl
    clear hsl
    by_cases hlt : i < n
    · obtain ⟨k1, k2, k3, k4, k5⟩ := hst.out
      have e20 := k5.b2x.at' (i := 0) rfl
      have e21 := k5.b2x.at' (i := 1) rfl
      have hMk := bnMake_at k3 t ht (bnv_zero wr F1) bn_zero_ok (bn_zero_fits t)
      unfold MadeW at hMk
      rw [BN.wd_len, ← hpgH.out] at hMk
      have hMkH := Lib.hid hMk
      have k1H := Lib.hid (And.intro k1 k2)
      have k3H := Lib.hid k3
      have k4H := Lib.hid k4
      have k5H := Lib.hid k5
      clear hMk k1 k2 k3 k4 k5 hst
      go_wp2_with fail
      refine hMkH.out.mono ?_
      rintro e w1 (⟨x, F2, hRx, hx0, hx64, rfl, hS, hT⟩ | ⟨er, F2, rfl, her, hS, hT⟩)
      · have m1 := k5H.out.turn hT
        obtain ⟨A, c, hv⟩ := ownsRow_form m1.row
        have hfr := k1H.out.1.snoc (n := BN.zero) hRx hx0
        have hnext : Hid (∀ v' w4, w4.ownsRow w.heap.size 31 1 v' (st ++ [x]).length (hsV (st ++ [x])) → ∀ tmp, (w1.alloc tmp).grownBy w4 v.ownBlock → (v'.ownBlock = v.ownBlock ∨ v'.ownBlock = some (w1.alloc tmp).heap.size) →
            (Bt.Fresh R (updR R1 x (some (BN.zero.wd t))) t (st ++ [x]) ∧ (∀ y ∈ st ++ [x], (updR R1 x (some (BN.zero.wd t))) y = some (BN.zero.wd t) ∧ y < 18446744073709551616) ∧ StoreIs (w4.setCell ⟨bl, 0, none⟩ v') s F2 (updR R1 x (some (BN.zero.wd t))) ((st ++ [x]).reverse ++ H) (P + (i + 1) * pg) q most last (G + (i + 1)) ∧ Turn w F (w4.setCell ⟨bl, 0, none⟩ v') F2 ∧ Mk w.heap.size (w4.setCell ⟨bl, 0, none⟩ v') s t F2 bl b2 v' (st ++ [x]))) := Lib.hid (fun v' w4 h1 tmp h2 h3 => by
          have hba : Below w1.heap.size w1 (w1.alloc tmp) := (Below.refl _ w1).alloc (Nat.le_refl _) _
          refine ⟨hfr, fun y hy => ?_, ?_, ?_, m1.more hne (fun b hb => hS.lt hb) h1 h2 h3⟩
          · by_cases e : y = x
            · subst e; exact ⟨updR_same _ _ _, hx64⟩
            · rw [updR_other e]
              rcases List.mem_append.1 hy with hy | hy
              · exact k1H.out.2 y hy
              · exact absurd (List.mem_singleton.1 hy) e
          · have := m1.store (v' := v') (x := x) hS ⟨hsN, htN⟩ gl h2
            rw [List.reverse_append, Nat.succ_mul, ← Nat.add_assoc]
            exact this
          · have hTw := (k4H.out.trans hT).trans (Turn.below (F := F2) hba)
            have h9 := hTw.own (Nat.le_refl _) h2 (fun r hr => (row_ge m1.row hr).1)
            exact h9.own (Nat.le_refl _) (grown_set w4 bl 0 v') (fun r hr => by obtain rfl : bl = r := Option.some.inj hr; exact gl))
        have hcl : Hid (∀ tmp w4, (w1.alloc tmp).grownBy w4 v.ownBlock → w4.cell? ⟨bl, 0, none⟩ = some v ∧ w4.frozen? ⟨bl, 0, none⟩ = false) := Lib.hid (fun tmp w4 hg => by
          have hbl2 : some bl ≠ v.ownBlock := fun e => (m1.fr bl e.symm).1 rfl
          have k1 : Box w4 bl 51 [v] := m1.bx.block ((hg.block bl (by have := m1.bx.lt; simp; omega) hbl2).trans (Below.heap_alloc w1 tmp bl m1.bx.lt))
          exact ⟨k1.at' (i := 0) rfl, k1.free 0⟩)
        have hrow1 := m1.row
        have cbl := m1.bx.at' (i := 0) rfl
        have fbl := m1.bx.free 0
        have hsz1 : w.heap.size ≤ w1.heap.size := Nat.le_trans k4H.out.size hT.size
        have hlen := hslH.out
        subst hv
        have hrow1H := Lib.hid hrow1
        rw [hlen] at hrow1
        have hlenH := Lib.hid hlen
        clear hfr m1 hS hT hrow1 hlen e20 e21
        go_wp2_with (at_builtin; refine wpList_append_own_at _ rfl _ _ 51 rfl w.heap.size 31 i0 (.int .u64 0) 1 8 Tryz.under_handles hi hz0 hz1 hz2 rfl (by decide) _ _ _ rfl (hrow1H.out.alloc _) ⟨w1.heap.size, 0, none⟩ 1 1 [.int .u64 (x : Int)] rfl rfl (cell_one_new _ _ _) (by simp [Value.oneCell']) (by rw [hlenH.out]; unfold maxLen; omega) (by rw [hlenH.out]; omega) (by simp; omega) ?_; intro v' w4 hown' hgrow _ hblk; obtain ⟨A9, c9, rfl⟩ := ownsRow_form hown'; obtain ⟨hc4, hf4⟩ := hcl.out _ _ hgrow; have hnx := Lib.hid (hnext.out _ _ (by rw [hsV_snoc, List.length_append]; exact hown') _ hgrow hblk); clear hown' hgrow hblk)
        go_roundw
        case rel => exact ⟨i + 1, st ++ [x], _, F2, _, by omega, by go_num, by rw [List.length_append, hlenH.out]; rfl, hnx⟩
        case measure => simp [intOf]; omega
      · have m1 := k5H.out.turn hT
        have her0 : ((er : Int) != 0) = true := by rcases her with ⟨rfl, _⟩ | ⟨rfl, _⟩ <;> rfl
        have hmul : i * pg + pg ≤ n * pg := by rw [← Nat.succ_mul]; exact Nat.mul_le_mul_right pg hlt
        have hS2 := hS.more (P' := P + n * pg) (G' := G + n) (by omega) (by omega)
        have hcau : Hid ((er = 3 ∧ q < (P + n * pg) * 64) ∨ (er = 10 ∧ (most < H.length + n ∨ last < G + n))) := Lib.hid (by
          rcases her with ⟨h1, h2⟩ | ⟨h1, h2⟩
          · exact .inl ⟨h1, Nat.lt_of_lt_of_le h2 (Nat.mul_le_mul_right 64 (by omega))⟩
          · refine .inr ⟨h1, ?_⟩
            have h9 := hslH.out
            rw [List.length_append, List.length_reverse] at h2
            rcases h2 with h2 | h2
            · exact .inl (by omega)
            · exact .inr (by omega))
        obtain ⟨A, c, hv⟩ := ownsRow_form m1.row
        have cbl := m1.bx.at' (i := 0) rfl
        have hl9 : st.length ≤ 1000 := by have := hslH.out; omega
        have hst2 : Hid (StoreIs w1 s F2 (dropF R1 (st.take 0)) ((st.drop 0).reverse ++ H) (P + n * pg) q most last (G + n) ∧ Turn w F w1 F2 ∧ Mk w.heap.size w1 s t F2 bl b2 v st) := Lib.hid ⟨by rw [List.take_zero, dropF_nil]; exact hS2, k4H.out.trans hT, m1⟩
        subst hv
        clear m1 her hmul hS hS2 hT e20 e21
        go_wp2
        go_loopw [27] (fun kv wr2 => ∃ (k : Nat) (F3 : Nat → Prop), k ≤ st.length ∧ kv = .int .i64 (k : Nat) ∧ Hid (StoreIs wr2 s F3 (dropF R1 (st.take k)) ((st.drop k).reverse ++ H) (P + n * pg) q most last (G + n) ∧ Turn w F wr2 F3 ∧ Mk w.heap.size wr2 s t F3 bl b2 (.slice A st.length c) st)) (fun kv _ => st.length - (intOf kv).toNat)
        case atStart => exact ⟨0, F2, Nat.zero_le _, rfl, hst2⟩
        case round =>
          obtain ⟨k, F3, hk, rfl, hr⟩ := hrel
          by_cases hlk : k < st.length
          · obtain ⟨r1, r2, r3⟩ := hr.out
            obtain ⟨A', c', e1, hC⟩ := row_cellsF (F := fun _ => False) r3.row (fun _ h => h.elim)
            cases e1
            obtain ⟨b, o, hA, hbl9, hcell⟩ := hC.num hlk
            have hck := hcell _ (Below.refl _ _)
            have hmem : st[k] ∈ st := List.getElem_mem hlk
            have hsplit : st.drop k = st[k] :: st.drop (k + 1) := List.drop_eq_getElem_cons hlk
            have hndp := k1H.out.1.nodup
            have hnin : st[k] ∉ st.drop (k + 1) := by
              have := List.Nodup.sublist (List.drop_sublist k st) hndp
              rw [hsplit] at this
              exact (List.nodup_cons.1 this).1
            have hnin2 : st[k] ∉ st.take k := by
              have h9 : (st.take k ++ st.drop k).Nodup := by rw [List.take_append_drop]; exact hndp
              intro hm
              exact (List.nodup_append.1 h9).2.2 _ hm _ (by rw [hsplit]; exact List.mem_cons_self) rfl
            have hRx : dropF R1 (st.take k) st[k] = some (BN.zero.wd t) := by
              unfold dropF
              rw [if_neg hnin2]
              exact (k1H.out.2 _ hmem).1
            have hD := sdrop_at r1 hRx
            rw [hsplit, erase_one hnin, dropF_snoc, show st.take k ++ [st[k]] = st.take (k + 1) from (List.take_succ_eq_append_getElem hlk).symm] at hD
            obtain ⟨x, hx⟩ : ∃ x, st[k] = x := ⟨_, rfl⟩
            rw [hx] at hD hck
            have hDH := Lib.hid hD
            have r2H := Lib.hid r2
            have r3H := Lib.hid r3
            have e20 := r3.b2x.at' (i := 0) rfl
            subst hA
            clear hD r1 r2 r3 hr hC hcell hmem hsplit hndp hnin hnin2 hRx hx
            go_wp2_with fail
            refine hDH.out.mono ?_
            rintro e w5 ⟨F4, rfl, hS5, hT5⟩
            have hnx := Lib.hid (And.intro hS5 (And.intro (r2H.out.trans hT5) (r3H.out.turn hT5)))
            clear hS5 hT5 e20
            go_wp2
            go_roundw
            case rel => exact ⟨k + 1, F4, by omega, by go_num, hnx⟩
            case measure => simp [intOf]; omega
          · obtain rfl : k = st.length := by omega
            have hd := hdef.out
            obtain ⟨r1, r2, r3⟩ := hr.out
            rw [List.take_length, dropF_fresh k1H.out.1, List.drop_length, List.reverse_nil, List.nil_append] at r1
            have hf := Lib.hid (fun e he => hd e wr (.inr ⟨er, F3, he, hcau.out, r1, r2⟩))
            clear hd hr r1 r2 r3
            go_wp2
            go_ret2
            exact hf.out _ rfl
    · obtain rfl : i = n := by omega
      have hd := hdef.out
      obtain ⟨k1, k2, k3, k4, k5⟩ := hst.out
      have hf := Lib.hid (fun e he => hd e wr (.inl ⟨st, F1, R1, bl, b2, v, he, hslH.out, k1, k2, k3, k4, k5, gl, g2, hne⟩))
      clear hd hst k1 k2 k3 k4 k5
      go_wp2
      go_ret2
      exact hf.out _ rfl
end
end Go.Proofs.YtjcpclcmnhpgpaaGreatDoor

set_option linter.unusedVariables false
set_option linter.unusedSimpArgs false
namespace Go.Proofs.YtjcpclcmnhpgpaaGreatDoor
open Go.RowKit Go.Shelf
def FB (F : Nat → Prop) (bl : Nat) : Nat → Prop := fun b => F b ∨ b = bl
theorem Turn.minus {w W W' : World} {F F1 : Nat → Prop} {bl : Nat} (h : Turn w F W F1) (g : Turn W (FB F1 bl) W' (FB F1 bl)) (hb : w.heap.size ≤ bl) : Turn w F W' F1 :=
  ⟨g.os.trans h.os, g.tape.trans h.tape, g.output.trans h.output, Nat.le_trans h.size g.size, fun k hk hn => (g.keep k (Nat.lt_of_lt_of_le hk h.size) (fun hf => by
    rcases hf with hf | hf
    · rcases h.grow k hf with h1 | h1
      · exact hn h1
      · omega
    · omega)).trans (h.keep k hk hn), h.grow⟩
theorem Turn.fb {w w' : World} {F : Nat → Prop} {bl : Nat} (h : Turn w F w' F) : Turn w (FB F bl) w' (FB F bl) := ⟨h.os, h.tape, h.output, h.size, fun k hk hn => h.keep k hk fun hf => hn (.inl hf), fun _ hf => .inl hf⟩
theorem Turn.set_fb (W : World) (F : Nat → Prop) (bl j : Nat) (v : Value) : Turn W (FB F bl) (W.setCell ⟨bl, j, none⟩ v) (FB F bl) :=
  ⟨rfl, rfl, rfl, by simp [World.setCell], fun k hk hn => Below.heap_setCell W ⟨bl, j, none⟩ v k (fun e => hn (.inr e)), fun _ h => .inl h⟩
theorem CellsF.less {w : World} {F F' : Nat → Prop} {A : Option Addr} {vs : List Value} (h : CellsF w F A vs) (hF : ∀ b, F' b → F b) : CellsF w F' A vs := by
  rcases h with h | ⟨b, o, h1, h2, h3, h4⟩
  · exact .inl h
  · exact .inr ⟨b, o, h1, h2, fun hf => h3 (hF b hf), h4⟩
theorem BNV.less {w : World} {F F' : Nat → Prop} {v : Value} {n : BN} (h : BNV w F v n) (hF : ∀ b, F' b → F b) : BNV w F' v n := by
  obtain ⟨⟨Ak, ck, Av, cv, Ai, ci, e, k1, k2, k3⟩, ll⟩ := h
  exact ⟨⟨Ak, ck, Av, cv, Ai, ci, e, k1.less hF, k2.less hF, k3.less hF⟩, ll⟩
structure Tk (N : Nat) (W : World) (s t : Nat) (F : Nat → Prop) (bl b2 : Nat) (v : Value) (st : List Nat) : Prop where
  bx : Box W bl 51 [v]
  b2x : Box W b2 88 [.pointer (some ⟨s, 0, none⟩), .int .i64 (t : Nat)]
  row : W.ownsRow N 31 1 v st.length (hsV st)
  fl : ¬ F bl
  f2 : ¬ F b2
  fr : ∀ k, v.ownBlock = some k → k ≠ bl ∧ k ≠ b2 ∧ ¬ F k
  ne : bl ≠ b2
section
variable {s : Nat} {F : Nat → Prop} {R : Nat → Option (List Nat)} {H : List Nat} {P q most last G : Nat} {N t bl b2 : Nat} {v : Value} {st : List Nat}
theorem Mk.tk {W : World} (h : Mk N W s t F bl b2 v st) (hne : bl ≠ b2) : Tk N W s t F bl b2 v st := ⟨h.bx, h.b2x, h.row, h.fl, h.f2, h.fr, hne⟩
theorem Tk.turn {W W' : World} {F' : Nat → Prop} (h : Tk N W s t F bl b2 v st) (ht : Turn W F W' F') : Tk N W' s t F' bl b2 v st :=
  ⟨h.bx.turn ht h.fl, h.b2x.turn ht h.f2, rows_keep h.row fun k hk => ht.keep k (rows_lt h.row k hk) (h.fr k hk).2.2, ht.not h.bx.lt h.fl, ht.not h.b2x.lt h.f2, fun k hk => ⟨(h.fr k hk).1, (h.fr k hk).2.1, ht.not (rows_lt h.row k hk) (h.fr k hk).2.2⟩, h.ne⟩
theorem Tk.below {W W' : World} (h : Tk N W s t F bl b2 v st) (hb : Below W.heap.size W W') : Tk N W' s t F bl b2 v st := h.turn (Turn.below hb)
theorem rows_cut {W : World} {A : Option Addr} {c x : Nat} {st : List Nat} (h : W.ownsRow N 31 1 (.slice A (st ++ [x]).length c) (st ++ [x]).length (hsV (st ++ [x]))) : W.ownsRow N 31 1 (.slice A st.length c) st.length (hsV st) := by
  refine ⟨by rw [hsV_len, Nat.mul_one], ?_⟩
  rcases h.2 with ⟨h1, h2⟩ | ⟨g, cap, cur, h1, h2, h3, h4, h5, h6, h7⟩
  · simp at h2
  · cases h1
    refine .inr ⟨g, c, cur, rfl, h2, h3, by rw [List.length_append] at h4; omega, h5, h6, ?_⟩
    rw [Nat.mul_one] at h7 ⊢
    have h8 := congrArg (List.take st.length) h7
    rw [List.take_take, List.length_append, Nat.min_eq_left (by omega)] at h8
    rw [h8, hsV_app]
    exact List.take_left' (hsV_len st)
def TakeR (N : Nat) (w : World) (s t : Nat) (F : Nat → Prop) (bl b2 : Nat) (vb : Option Nat) (R : Nat → Option (List Nat)) (H : List Nat) (P q most last G : Nat) (p : (Nat → Option (List Nat)) × List Nat × Nat) (e : Ending) (w' : World) : Prop :=
  ∃ v' st', v'.ownBlock = vb ∧ e = .returned (.int .u64 (p.2.2 : Nat)) ∧ st'.reverse = p.2.1 ∧ StoreIs w' s F p.1 H P q most last G ∧ Turn w (FB F bl) w' (FB F bl) ∧ Tk N w' s t F bl b2 v' st'
set_option maxHeartbeats 8000000 in
set_option maxRecDepth 100000 in
theorem btTake_at {w : World} (hs : StoreIs w s F R H P q most last G) (ht : BN.Deg t) (hT : Tk N w s t F bl b2 v st) (hN : s < N ∧ 1 < N) (hbN : N ≤ bl) (h64 : ∀ x ∈ st, x < 18446744073709551616) (hsl : st.length ≤ 100000) {nv : Value} {n : BN} (hv : BNV w (FB F bl) nv n) (hok : n.Ok) :
    Calls Tryz.prog 74 #[nv, .pointer (some ⟨bl, 0, none⟩), .pointer (some ⟨b2, 0, none⟩)] w (TakeR N w s t F bl b2 v.ownBlock R H P q most last G (btake R t st.reverse n)) := by
  obtain ⟨⟨Ak, ck, Av, cv, Ai, ci, hnv, k1, k2, k3⟩, ll⟩ := hv
  have hV : BNV w (FB F bl) nv n := ⟨⟨Ak, ck, Av, cv, Ai, ci, hnv, k1, k2, k3⟩, ll⟩
  subst hnv
  obtain ⟨W1, hW1⟩ : ∃ W, W = w.alloc (Obj.cells #[.slice Ak n.keys.length ck, .slice Av n.vals.length cv, .slice Ai n.kids.length ci, .int .u64 (n.size : Nat)] 66) := ⟨_, rfl⟩
  have hb1 : Below w.heap.size w W1 := by rw [hW1]; exact (Below.refl _ w).alloc (Nat.le_refl _) _
  obtain ⟨b3, hb3⟩ : ∃ b, b = w.heap.size := ⟨_, rfl⟩
  have x3 : Box W1 b3 66 [.slice Ak n.keys.length ck, .slice Av n.vals.length cv, .slice Ai n.kids.length ci, .int .u64 (n.size : Nat)] := by rw [hW1, hb3]; exact Box.new w _ _
  have T1 := hT.below hb1
  obtain ⟨A, c, hvf⟩ := ownsRow_form T1.row
  have cbl := T1.bx.at' (i := 0) rfl
  have fbl := T1.bx.free 0
  have hWH := Lib.hid (And.intro hW1 hb3)
  rw [hW1] at cbl fbl
  rcases List.eq_nil_or_concat st with rfl | ⟨st0, x, hst⟩
  · subst hvf
    have hfin : Hid (TakeR N w s t F bl b2 (Value.slice A ([] : List Nat).length c).ownBlock R H P q most last G (btake R t ([] : List Nat).reverse n) (.returned (.int .u64 0)) W1) := Lib.hid ⟨_, [], rfl, rfl, rfl, hs.below hb1, (Turn.below hb1).fb, T1⟩
    clear hs ht hT hV k1 k2 k3 hb1 x3 T1 hW1
    go_enter Tryz.func74, Tryz.ntmps74
    go_wp2
    rw [← hWH.out.1]
    go_ret
    exact hfin.out
  · rw [List.concat_eq_append] at hst
    subst hst
    subst hvf
    have hlen : (st0 ++ [x]).length = st0.length + 1 := by simp
    have hr1 := T1.row
    have hcut := rows_cut hr1
    obtain ⟨A', c', e1, hC⟩ := row_cellsF (F := fun _ => False) hr1 (fun _ h => h.elim)
    cases e1
    obtain ⟨b, o, hA, hbl9, hcell⟩ := hC.num (k := st0.length) (by omega)
    have hck := hcell _ (Below.refl _ _)
    rw [List.getElem_concat_length (by rfl)] at hck
    have hcap : st0.length + 1 ≤ c ∧ c ≤ maxLen := by
      rcases hr1.2 with ⟨h1, h2⟩ | ⟨g, cap, cur, h1, h2, h3, h4, h5, h6⟩
      · omega
      · cases h1; exact ⟨by omega, h5⟩
    unfold maxLen at hcap
    have hx64 : x < 18446744073709551616 := h64 x (by simp)
    obtain ⟨hc1, hc2⟩ := hcap
    have hsl1 : st0.length + 1 ≤ 100000 := by omega
    have hfr := T1.fr
    have hnb : ∀ k, (Value.slice A st0.length c).ownBlock = some k → k ≠ bl ∧ k ≠ b2 ∧ ¬ F k := fun k hk => hfr k (by cases A with | none => simp [Value.ownBlock] at hk | some a => exact hk)
    have hS1 := hs.below hb1
    have hFin : Hid (∀ (W2 w3 : World), W2 = W1.setCell ⟨bl, 0, none⟩ (.slice A st0.length c) → StoreIs w3 s F (bputR R t x n) H P q most last G → Turn W2 F w3 F → TakeR N w s t F bl b2 (Value.slice A (st0 ++ [x]).length c).ownBlock R H P q most last G (btake R t (st0 ++ [x]).reverse n) (.returned (.int .u64 (x : Nat))) w3) := Lib.hid (fun W2 w3 hW2 h1 h2 => by
      have hbt : btake R t (st0 ++ [x]).reverse n = (bputR R t x n, st0.reverse, x) := by simp [btake]
      rw [hbt]
      have hTk2 : Tk N W2 s t F bl b2 (.slice A st0.length c) st0 := by
        rw [hW2]
        refine ⟨T1.bx.set 0 _, T1.b2x.other (p := ⟨bl, 0, none⟩) (Ne.symm T1.ne) _, rows_keep hcut fun k hk => Below.heap_setCell W1 ⟨bl, 0, none⟩ _ k (hnb k hk).1, T1.fl, T1.f2, hnb, T1.ne⟩
      refine ⟨_, st0, by cases A <;> rfl, rfl, rfl, h1, ((Turn.below hb1).fb.trans (by rw [hW2]; exact Turn.set_fb W1 F bl 0 _)).trans h2.fb, hTk2.turn h2⟩)
    obtain ⟨W2, hW2⟩ : ∃ W, W = W1.setCell ⟨bl, 0, none⟩ (.slice A st0.length c) := ⟨_, rfl⟩
    have hS2 : StoreIs W2 s F R H P q most last G := by
      rw [hW2]
      refine hS1.grown (grown_set W1 bl 0 _) (fun k hk => ?_)
      obtain rfl : bl = k := Option.some.inj hk
      refine ⟨by omega, by omega, T1.fl, fun p hc => ?_⟩
      rw [T1.bx.at' (i := 0) rfl] at hc
      cases hc
    have hV2 : BNV W2 F (.agg #[.slice Ak n.keys.length ck, .slice Av n.vals.length cv, .slice Ai n.kids.length ci, .int .u64 (n.size : Nat)]) n := by
      rw [hW2]
      exact ((hV.turn (Turn.below hb1)).turn (Turn.set_fb W1 F bl 0 _)).less fun b hb => .inl hb
    have hPut := bnPut_at hS2 t ht x hx64 hV2 hok
    unfold BPut at hPut
    have y3 := x3.other (p := ⟨bl, 0, none⟩) (fun e => by have h8 := hT.bx.lt; have h9 : b3 = bl := e; omega) (.slice A st0.length c)
    have y2 := T1.b2x.other (p := ⟨bl, 0, none⟩) (Ne.symm T1.ne) (.slice A st0.length c)
    rw [← hW2] at y3 y2
    have a30 := y3.at' (i := 0) rfl
    have a31 := y3.at' (i := 1) rfl
    have a32 := y3.at' (i := 2) rfl
    have a33 := y3.at' (i := 3) rfl
    have a20 := y2.at' (i := 0) rfl
    have a21 := y2.at' (i := 1) rfl
    have hPutH := Lib.hid hPut
    have hW2H := Lib.hid hW2
    rw [hWH.out.1] at hck
    rw [hlen] at cbl
    rw [hWH.out.1] at hW2
    have hW2r := Lib.hid hW2
    subst hA
    clear hb3 hPut hW2 hS2 hV2 y3 y2 hs ht hT hV k1 k2 k3 hb1 x3 T1 hW1 hr1 hcut hC hcell hfr hnb hS1 hlen h64 hsl hN
    go_enter Tryz.func74, Tryz.ntmps74
    go_upto_region 5 with (fail)
    rw [← hW2r.out, ← hWH.out.2]
    go_wp2_with fail
    refine hPutH.out.mono ?_
    rintro e w3 ⟨rfl, hS3, hT3⟩
    have hf := Lib.hid (hFin.out W2 w3 hW2H.out hS3 hT3)
    clear hS3 hT3
    go_wp2
    go_ret
    exact hf.out
end
end Go.Proofs.YtjcpclcmnhpgpaaGreatDoor

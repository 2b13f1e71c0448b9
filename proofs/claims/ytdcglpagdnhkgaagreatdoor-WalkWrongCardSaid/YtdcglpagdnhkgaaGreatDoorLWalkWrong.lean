/-
  The seat's own texts, what WalkWrong wants besides: OpenNd, Two, Ranks, WrongP, Wrong.
-/
import Derived.Test.YtdcglpagdnhkgaaGreatDoorMi
import Derived.WalkLawsBesides
/- A node by value, as a law's row opens it; a handle. -/
set_option linter.unusedVariables false
set_option linter.unusedSimpArgs false
namespace Go.Proofs.YtdcglpagdnhkgaaGreatDoor
open Go.ChangeShapes Go.WideShapes Go.ChangeAt Go.WideMaps Go.WideElems Go.RowKit Go.Deep
theorem u64_bound {n : Int} (h : (Lit.int .u64 n).wf = true) : 0 ≤ n ∧ n ≤ 18446744073709551615 := by
  simpa [Lit.wf, IntKind.min, IntKind.max, IntKind.signed, IntKind.bits] using h
theorem nd_under : ∃ fs : Array Field, Tryz.prog.underlying 50 = some (.struct fs) ∧ oneCellFields Tryz.prog fs = true ∧ fs.size = 6 ∧ ∀ i, i < 6 → ∃ f, fs[i]? = some f ∧ Tryz.prog.underlying f.type = some (.int .u64) := by
  refine ⟨_, Tryz.underlying50, by kernel_rfl, rfl, fun i hi => ?_⟩
  match i, hi with
  | 0, _ => exact ⟨_, rfl, Tryz.underlying28⟩
  | 1, _ => exact ⟨_, rfl, Tryz.underlying28⟩
  | 2, _ => exact ⟨_, rfl, Tryz.underlying28⟩
  | 3, _ => exact ⟨_, rfl, Tryz.underlying28⟩
  | 4, _ => exact ⟨_, rfl, Tryz.underlying27⟩
  | 5, _ => exact ⟨_, rfl, Tryz.underlying27⟩
  | i + 6, h => omega
section
variable {H : Type} {enc : TypeId × Value → H} {w : World} {held : Bool} {v : Value} {d : DataW H} {p : List MemPlace}
set_option maxRecDepth 100000 in
theorem open_nd {base : Nat} (hv : Value.okWide Tryz.prog w .any base 50 v) (h : DataW.Trod enc Tryz.prog w 0 (fun _ => true) held 50 v d p) : ∃ x : Nd, v = x.v ∧ x.Ok := by
  obtain ⟨fs, hu, hone, h6, hfs⟩ := nd_under
  obtain ⟨cs, rfl, hsz⟩ := okWide_struct hu hv
  have hc6 : Tryz.prog.cellsOf 50 = 6 := by kernel_rfl
  obtain ⟨l⟩ := cs
  match l, hsz.trans hc6 with
  | [c0, c1, c2, c3, c4, c5], _ =>
    obtain ⟨fuel, hf⟩ := h
    obtain ⟨xs, n, _, hx, _, hlen, hg⟩ := DataW.trod_struct hu hf
    have each : ∀ i, (hi : i < 6) → ∃ z : Nat, ((([c0, c1, c2, c3, c4, c5] : List Value).drop i).take 1) = [Value.int .u64 (z : Nat)] ∧ z < 18446744073709551616 := fun i hi => by
      obtain ⟨f, hfi, hfu⟩ := hfs i hi
      obtain ⟨o1, k1⟩ := hone_of hone i f hfi
      have h1 := hg i f hfi
      have hxl : i < xs.length := by omega
      rw [o1, k1, List.getElem?_eq_getElem hxl] at h1
      simp only [Value.cells] at h1
      obtain ⟨m, e1, _, hwf⟩ := DataW.trod_int hfu h1
      obtain ⟨b1, b2⟩ := u64_bound hwf
      obtain ⟨z, rfl⟩ := Int.eq_ofNat_of_zero_le b1
      exact ⟨z, e1, by omega⟩
    obtain ⟨z0, e0, b0⟩ := each 0 (by omega)
    obtain ⟨z1, e1, b1⟩ := each 1 (by omega)
    obtain ⟨z2, e2, b2⟩ := each 2 (by omega)
    obtain ⟨z3, e3, b3⟩ := each 3 (by omega)
    obtain ⟨z4, e4, b4⟩ := each 4 (by omega)
    obtain ⟨z5, e5, b5⟩ := each 5 (by omega)
    simp only [List.drop_succ_cons, List.drop_zero, List.take_succ_cons, List.take_zero, List.cons.injEq, and_true] at e0 e1 e2 e3 e4 e5
    subst e0 e1 e2 e3 e4 e5
    exact ⟨⟨z0, z1, z2, z3, z4, z5⟩, rfl, ⟨b0, b1, b2, b3, b4, b5⟩⟩
end
end Go.Proofs.YtdcglpagdnhkgaaGreatDoor
/- Two trees in one store. -/
set_option linter.unusedVariables false
set_option linter.unusedSimpArgs false
namespace Go.Proofs.YtdcglpagdnhkgaaGreatDoor
open Go.RowKit Go.Shelf
/-- six cells of one block are turned -/
def setSix (W : World) (b : Nat) (v0 v1 v2 v3 v4 v5 : Value) : World := (((((W.setCell ⟨b, 0, none⟩ v0).setCell ⟨b, 1, none⟩ v1).setCell ⟨b, 2, none⟩ v2).setCell ⟨b, 3, none⟩ v3).setCell ⟨b, 4, none⟩ v4).setCell ⟨b, 5, none⟩ v5
theorem kb_one (W : World) (b j : Nat) (v : Value) : KB (fun k => k = b) W (W.setCell ⟨b, j, none⟩ v) := KB.setCell (Cs := fun k => k = b) (p := ⟨b, j, none⟩) rfl v
theorem setSix_kb (W : World) (b : Nat) (v0 v1 v2 v3 v4 v5 : Value) : KB (fun k => k = b) W (setSix W b v0 v1 v2 v3 v4 v5) :=
  (((((kb_one W b 0 v0).trans (kb_one _ b 1 v1)).trans (kb_one _ b 2 v2)).trans (kb_one _ b 3 v3)).trans (kb_one _ b 4 v4)).trans (kb_one _ b 5 v5)
theorem setSix_below {w W : World} {m b : Nat} (h : Below m w W) (hb : m ≤ b) (v0 v1 v2 v3 v4 v5 : Value) : Below m w (setSix W b v0 v1 v2 v3 v4 v5) :=
  (((((h.setCell (p := ⟨b, 0, none⟩) hb v0).setCell (p := ⟨b, 1, none⟩) hb v1).setCell (p := ⟨b, 2, none⟩) hb v2).setCell (p := ⟨b, 3, none⟩) hb v3).setCell (p := ⟨b, 4, none⟩) hb v4).setCell (p := ⟨b, 5, none⟩) hb v5
theorem setSix_eq (W : World) (b : Nat) (v0 v1 v2 v3 v4 v5 : Value) : (((((W.setCell ⟨b, 0, none⟩ v0).setCell ⟨b, 1, none⟩ v1).setCell ⟨b, 2, none⟩ v2).setCell ⟨b, 3, none⟩ v3).setCell ⟨b, 4, none⟩ v4).setCell ⟨b, 5, none⟩ v5 = setSix W b v0 v1 v2 v3 v4 v5 := rfl
section
variable {w w' : World} {s N : Nat} {F : Nat → Prop} {R R' : Nat → Option (List Nat)} {H : List Nat} {P q most last G n : Nat}
theorem treeNil (rd : Rd N w s R n) (sh : Short R) (z : R 0 = none) : TreeR N w s R n .nil [] :=
  ⟨rd, sh, z, trivial, rfl, List.Pairwise.nil, List.nodup_nil, Nat.zero_le _⟩
theorem treeIn (h : StoreIs w s F R H P q most last G) (sh : Short R) (z : R 0 = none) {t : BT} (ht : t.At R) {l : List Pr} (hp : t.prs = l) (hr : Rising l) (hn : t.hs.Nodup) : ∃ n, TreeR w.heap.size w s R n t l ∧ WordsR R H P n := by
  obtain ⟨n, hrd, hwd⟩ := h.rd
  exact ⟨n, ⟨hrd, sh, z, ht, hp, hr, hn, BT.size_words ht hn h.dom hwd⟩, hwd⟩
theorem GrowOut.other {t t' : BT} (g : GrowOut R R' t) (h : t'.At R) : t'.At R' := h.congr fun x hx => g.keep (BT.hs_in t' h x hx)
theorem GrowOut.apart {t t' : BT} (g : GrowOut R R' t) (h : t'.At R) : ∀ x ∈ t'.hs, x ∉ t.hs := fun x hx hm => BT.hs_in t' h x hx (g.fresh x hm)
theorem dropR_at {t t' : BT} (h : t'.At R) (ha : ∀ x ∈ t'.hs, x ∉ t.hs) : t'.At (dropR R t.hs) := h.congr fun x hx => dropR_out (ha x hx)
theorem dropR_zero {l : List Nat} (h : R 0 = none) : dropR R l 0 = none := by
  unfold dropR
  split
  · rfl
  · exact h
/-- a step that turns cells of other blocks leaves the store as it is -/
theorem StoreIs.kb {Cs : Nat → Prop} (h : StoreIs w s F R H P q most last G) (hk : KB Cs w w') (hF : ∀ k, Cs k → ¬ F k) (hs : ¬ Cs s) (hp : ∀ k, Cs k → ∀ p, w.cell? ⟨k, 0, none⟩ ≠ some (.pointer p)) (ht : ¬ Cs 1) : StoreIs w' s F R H P q most last G := by
  obtain ⟨a, ha, t, v, L, mem, sl, Fh, h⟩ := h
  have hFe := h.F_eq
  have hha : ¬ Cs ha := fun hc => by
    obtain ⟨⟨mb, D, k1, rfl⟩, _, _⟩ := h.heap
    exact hp ha hc _ k1.hs
  exact ⟨a, ha, t, v, L, mem, sl, Fh, { h with
    ca := hk.cell h.ca hs
    ch := hk.cell h.ch hs
    ct := hk.cell h.ct hs
    heap := h.heap.kb hk (fun k hf hc => hF k hc (by rw [hFe]; exact .inl hf)) hha ht
    tab := h.tab.kb hk (fun b hf hc => hF b hc (by rw [hFe]; exact .inr hf)) }⟩
/-- a root that is dropped is no node -/
theorem check_gone (n x : Nat) (h0 : x ≠ 0) (hx : R x = none) : checkR R n x = 8 := by
  unfold checkR
  have : nodeE R x = 7 := by unfold nodeE; rw [hx]
  rw [if_neg h0, if_pos (by rw [this]; decide)]
theorem BT.root_in {t : BT} (h : t.root ≠ 0) : t.root ∈ t.hs := by
  cases t with
  | nil => exact absurd rfl h
  | node x kh vh m k v l r => simp [BT.root, BT.hs]
end
end Go.Proofs.YtdcglpagdnhkgaaGreatDoor
/- loftlaw11.WalkRanks: the walk. -/
set_option linter.unusedVariables false
set_option linter.unusedSimpArgs false
namespace Go.Proofs.YtdcglpagdnhkgaaGreatDoor
open Go.RowKit Go.Shelf
theorem less_cmp : ∀ a b : List UInt8, Op.bytesLess a b = decide (Lib.compareBytes a b < 0)
  | [], [] => rfl
  | [], _ :: _ => rfl
  | _ :: _, [] => rfl
  | a :: ar, b :: bs => by
    rw [Op.bytesLess, Lib.compareBytes]
    by_cases h1 : a < b
    · simp [h1]
    · by_cases h2 : b < a
      · have : (a == b) = false := by
          rw [beq_eq_false_iff_ne]; rintro rfl; exact h1 h2
        simp [h1, h2, this]
      · have : a = b := Tx.u8_eq h1 h2
        subst this
        simp [h1, less_cmp ar bs]
theorem cb_zero_byte : ∀ p a : List UInt8, Lib.compareBytes p (a ++ [0]) < 0 ↔ Lib.compareBytes p a ≤ 0
  | [], [] => by simp [Lib.compareBytes]
  | [], _ :: _ => by simp [Lib.compareBytes]
  | c :: cs, [] => by
    have h1 : ¬ c < 0 := by simp [UInt8.lt_iff_toNat_lt]
    simp only [List.nil_append, Lib.compareBytes, if_neg h1]
    constructor
    · intro h
      split at h
      · omega
      · cases cs <;> simp [Lib.compareBytes] at h
    · intro h; omega
  | c :: cs, b :: bs => by
    simp only [List.cons_append, Lib.compareBytes]
    by_cases h1 : c < b
    · simp [h1]
    · by_cases h2 : b < c
      · simp [h1, h2]
      · simp only [if_neg h1, if_neg h2]
        exact cb_zero_byte cs bs
theorem cmp_zero_byte (p a : ByteArray) : Tx.cmp p (a ++ ⟨#[0]⟩) < 0 ↔ Tx.cmp p a ≤ 0 := by
  unfold Tx.cmp
  rw [show (a ++ (⟨#[0]⟩ : ByteArray)).data.toList = a.data.toList ++ [0] by rw [ByteArray.data_append]; simp]
  exact cb_zero_byte _ _
theorem rank_mono {l : List Pr} {a b : ByteArray} (h : Tx.cmp a b ≤ 0) : rankL l a ≤ rankL l b := by
  unfold rankL
  refine List.countP_mono_left fun p _ hp => ?_
  have hp := of_decide_eq_true hp
  refine decide_eq_true ?_
  by_cases h0 : Tx.cmp a b = 0
  · rw [← cmp_zero.1 h0]; exact hp
  · exact cmp_lt_trans hp (by omega)
theorem rank_zero {l : List Pr} (h : Rising l) (a : ByteArray) : rankL l (a ++ ⟨#[0]⟩) = rankL l a + if hasK l a then 1 else 0 := by
  obtain ⟨h1, h2⟩ := rank_split (k := a) h
  have hle := rankL_le l a
  have hk : hasK l a ↔ (l[rankL l a]?).map (·.1) = some a := Iff.rfl
  rw [show (if hasK l a then 1 else 0) = (if (l[rankL l a]?).map (·.1) = some a then 1 else 0) from rfl]
  clear hk
  generalize rankL l a = r at *
  have hsplit : rankL l (a ++ ⟨#[0]⟩) = rankL (l.take r) (a ++ ⟨#[0]⟩) + rankL (l.drop r) (a ++ ⟨#[0]⟩) := by
    rw [← rankL_append, List.take_append_drop]
  have ht : rankL (l.take r) (a ++ ⟨#[0]⟩) = r := by
    rw [rankL_all (fun p hp => (cmp_zero_byte _ _).2 (by have := h1 p hp; omega)), List.length_take]
    omega
  rw [hsplit, ht]
  congr 1
  by_cases hlt : r < l.length
  · have hd := List.drop_eq_getElem_cons hlt
    have hr : Rising (l.drop r) := List.Pairwise.sublist (List.drop_sublist r l) h
    rw [hd] at h2 hr ⊢
    have hr' := List.pairwise_cons.1 hr
    have hd0 := h2 l[r] List.mem_cons_self
    have hrest : rankL (l.drop (r + 1)) (a ++ ⟨#[0]⟩) = 0 := by
      refine rankL_none fun q hq e => ?_
      have h3 := hr'.1 q hq
      have h4 := (cmp_zero_byte _ _).1 e
      have h5 := cmp_swap q.1 a
      by_cases h6 : Tx.cmp q.1 a = 0
      · rw [cmp_zero.1 h6] at h3; exact hd0 h3
      · exact hd0 (cmp_lt_trans h3 (by omega))
    rw [rankL_cons, hrest, List.getElem?_eq_getElem hlt]
    simp only [Option.map_some, Option.some.injEq, Nat.zero_add]
    by_cases he : l[r].1 = a
    · rw [if_pos he, if_pos ((cmp_zero_byte _ _).2 (by have := (cmp_zero (a := l[r].1) (b := a)).2 he; omega))]
    · rw [if_neg he, if_neg]
      intro e
      have h4 := (cmp_zero_byte _ _).1 e
      have : Tx.cmp l[r].1 a ≠ 0 := fun e => he (cmp_zero.1 e)
      omega
  · rw [List.drop_eq_nil_of_le (by omega), List.getElem?_eq_none (by omega)]
    simp [rankL]
/-- what a law's guard lets by: too many, or a long text: awake -/
theorem str_less (a b : ByteArray) : Op.bytesLess a.toList b.toList = decide (Tx.cmp a b < 0) := by
  rw [Tx.toList_eq, Tx.toList_eq, less_cmp]; rfl
set_option maxHeartbeats 1000000 in
set_option maxRecDepth 100000 in
theorem ranks_0 {w : World} (hT : Tab w) (l : List Pr) (A A' : Option Addr) (c c' m : Nat) (a b : ByteArray) (hl : 60 < l.length) (hl2 : l.length ≤ 9223372036854775807) :
    Calls Tryz.prog 4 #[.slice A l.length c, .slice A' m c', .string a, .string b] w (TrueB w) := by
  have hA := Lib.hid (awake_at hT)
  have d1 : decide ((60 : Int) < (l.length : Int)) = true := by simp; omega
  clear hT
  unfold TrueB
  go_enter Tryz.func4, Tryz.ntmps4
  go_wp2_with fail
  refine hA.out.mono ?_
  rintro e w1 ⟨rfl, hb1⟩
  have hbH := Lib.hid hb1
  clear hb1
  go_wp2
  go_ret
  exact ⟨rfl, hbH.out⟩
set_option maxHeartbeats 1000000 in
set_option maxRecDepth 100000 in
theorem ranks_1 {w : World} (hT : Tab w) (l : List Pr) (A A' : Option Addr) (c c' m : Nat) (a b : ByteArray) (h : ILaw w A l) (hl : l.length ≤ 60) (ha : a.size ≤ 9223372036854775807) (hb : b.size ≤ 9223372036854775807) (hlong : longL l = true ∨ (longL l = false ∧ 2000 < a.size) ∨ (longL l = false ∧ a.size ≤ 2000 ∧ 2000 < b.size)) :
    Calls Tryz.prog 4 #[.slice A l.length c, .slice A' m c', .string a, .string b] w (TrueB w) := by
  have hA := Lib.hid (awake_at hT)
  have hL := refLong_at (c := c) h.1.prs (by omega) h.2.1
  have d1 : decide ((60 : Int) < (l.length : Int)) = false := by simp; omega
  clear hT h
  unfold TrueB
  rcases hlong with hlong | ⟨hlong, d2⟩ | ⟨hlong, d2, d3⟩
  all_goals
    rw [hlong] at hL
    have hLH := Lib.hid hL
    clear hL hlong
    go_enter Tryz.func4, Tryz.ntmps4
    go_wp2_with fail
    refine hLH.out.mono ?_
    rintro e w0 ⟨rfl, rfl⟩
    go_wp2_with fail
    refine hA.out.mono ?_
    rintro e w1 ⟨rfl, hb1⟩
    have hbH := Lib.hid hb1
    clear hb1
    go_wp2
    go_ret
    exact ⟨rfl, hbH.out⟩
set_option maxHeartbeats 4000000 in
set_option maxRecDepth 100000 in
theorem ranks_main {w : World} (hT : Tab w) (l : List Pr) (A A' : Option Addr) (c c' : Nat) (zs : List Int) (a b : ByteArray) (h : ILaw w A l) (hz : IInts w A' zs) (hl : l.length ≤ 60) (hlong : longL l = false) (ha : a.size ≤ 2000) (hb : b.size ≤ 2000) :
    Calls Tryz.prog 4 #[.slice A l.length c, .slice A' zs.length c', .string a, .string b] w (TrueB w) := by
  have hL := refLong_at (c := c) h.1.prs (by omega) h.2.1
  rw [hlong] at hL
  have hLH := Lib.hid hL
  have d1 : decide ((60 : Int) < (l.length : Int)) = false := by simp; omega
  have hM := Lib.hid (made_at (c := c) hT h.1 (by omega) (sized_of hlong) (c' := c') hz.2.1 hz.2.2 hz.1)
  have hTH := Lib.hid hT
  have hsl := sortedL_len l
  have hris := Lib.hid (sortedL_rising l)
  have hless := str_less a b
  have heq := str_beq a b
  clear hT h hL hlong hz
  unfold TrueB
  have hcase : (Op.bytesLess a.toList b.toList = true ∧ (a.toList == b.toList) = false ∧ decide (rankL (sortedL l) a ≤ rankL (sortedL l) b) = true) ∨
      (Op.bytesLess a.toList b.toList = false ∧ (a.toList == b.toList) = true ∧ rankL (sortedL l) a = rankL (sortedL l) b) ∨
      (Op.bytesLess a.toList b.toList = false ∧ (a.toList == b.toList) = false ∧ decide (rankL (sortedL l) b ≤ rankL (sortedL l) a) = true) := by
    have hsw := cmp_swap a b
    by_cases h0 : Tx.cmp a b < 0
    · exact .inl ⟨by rw [hless]; exact decide_eq_true h0, by rw [heq]; exact decide_eq_false (fun e => by have := cmp_zero.2 e; omega), decide_eq_true (rank_mono (by omega))⟩
    · by_cases h1 : Tx.cmp a b = 0
      · exact .inr (.inl ⟨by rw [hless]; exact decide_eq_false h0, by rw [heq]; exact decide_eq_true (cmp_zero.1 h1), by rw [cmp_zero.1 h1]⟩)
      · exact .inr (.inr ⟨by rw [hless]; exact decide_eq_false h0, by rw [heq]; exact decide_eq_false (fun e => h1 (cmp_zero.2 e)), decide_eq_true (rank_mono (by omega))⟩)
  clear hless heq
  have hcH := Lib.hid hcase
  clear hcase
  go_enter Tryz.func4, Tryz.ntmps4
  go_wp2_with fail
  refine hLH.out.mono ?_
  rintro e w0 ⟨rfl, rfl⟩
  go_wp2_with fail
  refine hM.out.mono ?_
  rintro e w1 ⟨s, t, F, R, H, B, cB, rfl, hmo⟩
  obtain ⟨n, hTR, _⟩ := hmo.tree rfl
  generalize sortedL l = m at *
  have hTR1 := Lib.hid hTR
  have hb1 := Lib.hid hmo.bel
  have hT1 := Lib.hid (hTH.out.below hmo.bel (tab_lt hTH.out))
  have hRk := Lib.hid (fun W (hb : Below w1.heap.size w1 W) k => trank_at (hTR1.out.below hb) k)
  have hAw := Lib.hid (fun W (hb : Below w1.heap.size w1 W) => awake_at (hT1.out.below hb (tab_lt hT1.out)))
  have hra := rankL_le m a
  have hrb := rankL_le m b
  have hrz := Lib.hid (rank_zero hris.out a)
  clear hmo hTR hLH hM
  go_wp2_with fail
  refine (hRk.out _ (Below.refl _ _) _).mono ?_
  rintro e w2 ⟨rfl, hb2⟩
  have hb2H := Lib.hid hb2
  clear hb2
  go_wp2_with fail
  refine (hRk.out _ hb2H.out _).mono ?_
  rintro e w3 ⟨rfl, hb3⟩
  have hb3H := Lib.hid (hb2H.out.trans (hb3.mono hb2H.out.size))
  clear hb3
  go_wp2_with fail
  refine (hRk.out _ hb3H.out _).mono ?_
  rintro e w4 ⟨rfl, hb4⟩
  have hb4H := Lib.hid (hb3H.out.trans (hb4.mono hb3H.out.size))
  clear hb4
  go_wp2_with fail
  obtain ⟨x, hx⟩ : ∃ x, rankL m a = x := ⟨_, rfl⟩
  obtain ⟨y, hy⟩ : ∃ y, rankL m b = y := ⟨_, rfl⟩
  obtain ⟨z, hz⟩ : ∃ z, rankL m (a ++ ⟨#[0]⟩) = z := ⟨_, rfl⟩
  have hF : (∃ v : Nat, Calls Tryz.prog 15 #[.pointer (some ⟨s, 0, none⟩), .int .u64 (t.root : Nat), .string a] w4 (fun e w' => e = .returned (.tuple #[.int .u64 (v : Nat), .bool true]) ∧ Below w4.heap.size w4 w') ∧ z = x + 1) ∨
      (Calls Tryz.prog 15 #[.pointer (some ⟨s, 0, none⟩), .int .u64 (t.root : Nat), .string a] w4 (fun e w' => e = .returned (.tuple #[.int .u64 0, .bool false]) ∧ Below w4.heap.size w4 w') ∧ z = x) := by
    have h4 := hrz.out
    rw [hx, hz] at h4
    by_cases hh : hasK m a
    · rw [if_pos hh] at h4
      obtain ⟨hl1, hF⟩ := tfind_yes (hTR1.out.below hb4H.out) hh
      exact .inl ⟨_, hF, h4⟩
    · rw [if_neg hh, Nat.add_zero] at h4
      exact .inr ⟨tfind_no (hTR1.out.below hb4H.out) hh, h4⟩
  have hcc := hcH.out
  rw [hx, hy] at hcc
  rw [hx] at hra
  rw [hy] at hrb
  simp only [hx, hy, hz]
  have hFH := Lib.hid hF
  have hccH := Lib.hid hcc
  clear hF hcc hcH hrz hRk hx hy hz hris
  have e1 : decide (x ≤ m.length) = true := decide_eq_true hra
  have e2 : decide ((x : Int) ≤ (m.length : Int)) = true := decide_eq_true (by omega)
  have e3 : decide ((0 : Int) ≤ (x : Int)) = true := decide_eq_true (by omega)
  rcases hFH.out with ⟨v, hF, hz⟩ | ⟨hF, hz⟩
  · have hF2 := Lib.hid hF
    have dz : ((z : Int) == (x : Int) + 1) = true := by rw [hz]; simp
    clear hF hz hFH
    refine hF2.out.mono ?_
    rintro e w5 ⟨rfl, hb5⟩
    have hb5H := Lib.hid (hb4H.out.trans (hb5.mono hb4H.out.size))
    clear hb5
    rcases hccH.out with ⟨f1, f2, f3⟩ | ⟨f1, f2, f3⟩ | ⟨f1, f2, f3⟩
    · have f4 : decide ((x : Int) ≤ (y : Int)) = true := by have := of_decide_eq_true f3; exact decide_eq_true (by omega)
      clear hccH
      go_wp2_with fail
      refine (hAw.out _ hb5H.out).mono ?_
      rintro e w6 ⟨rfl, hb6⟩
      have hb6H := Lib.hid (hb1.out.trans ((hb5H.out.trans (hb6.mono hb5H.out.size)).mono hb1.out.size))
      clear hb6
      go_wp2
      go_ret
      exact ⟨rfl, hb6H.out⟩
    · subst f3
      have f4 : decide ((x : Int) ≤ (x : Int)) = true := by simp
      have f5 : decide (x ≤ x) = true := by simp
      clear hccH
      go_wp2_with fail
      refine (hAw.out _ hb5H.out).mono ?_
      rintro e w6 ⟨rfl, hb6⟩
      have hb6H := Lib.hid (hb1.out.trans ((hb5H.out.trans (hb6.mono hb5H.out.size)).mono hb1.out.size))
      clear hb6
      go_wp2
      go_ret
      exact ⟨rfl, hb6H.out⟩
    · have f4 : decide ((y : Int) ≤ (x : Int)) = true := by have := of_decide_eq_true f3; exact decide_eq_true (by omega)
      clear hccH
      go_wp2_with fail
      refine (hAw.out _ hb5H.out).mono ?_
      rintro e w6 ⟨rfl, hb6⟩
      have hb6H := Lib.hid (hb1.out.trans ((hb5H.out.trans (hb6.mono hb5H.out.size)).mono hb1.out.size))
      clear hb6
      go_wp2
      go_ret
      exact ⟨rfl, hb6H.out⟩
  · have hF2 := Lib.hid hF
    have dz : ((z : Int) == (x : Int)) = true := by rw [hz]; simp
    clear hF hz hFH
    refine hF2.out.mono ?_
    rintro e w5 ⟨rfl, hb5⟩
    have hb5H := Lib.hid (hb4H.out.trans (hb5.mono hb4H.out.size))
    clear hb5
    rcases hccH.out with ⟨f1, f2, f3⟩ | ⟨f1, f2, f3⟩ | ⟨f1, f2, f3⟩
    · have f4 : decide ((x : Int) ≤ (y : Int)) = true := by have := of_decide_eq_true f3; exact decide_eq_true (by omega)
      clear hccH
      go_wp2_with fail
      refine (hAw.out _ hb5H.out).mono ?_
      rintro e w6 ⟨rfl, hb6⟩
      have hb6H := Lib.hid (hb1.out.trans ((hb5H.out.trans (hb6.mono hb5H.out.size)).mono hb1.out.size))
      clear hb6
      go_wp2
      go_ret
      exact ⟨rfl, hb6H.out⟩
    · subst f3
      have f4 : decide ((x : Int) ≤ (x : Int)) = true := by simp
      have f5 : decide (x ≤ x) = true := by simp
      clear hccH
      go_wp2_with fail
      refine (hAw.out _ hb5H.out).mono ?_
      rintro e w6 ⟨rfl, hb6⟩
      have hb6H := Lib.hid (hb1.out.trans ((hb5H.out.trans (hb6.mono hb5H.out.size)).mono hb1.out.size))
      clear hb6
      go_wp2
      go_ret
      exact ⟨rfl, hb6H.out⟩
    · have f4 : decide ((y : Int) ≤ (x : Int)) = true := by have := of_decide_eq_true f3; exact decide_eq_true (by omega)
      clear hccH
      go_wp2_with fail
      refine (hAw.out _ hb5H.out).mono ?_
      rintro e w6 ⟨rfl, hb6⟩
      have hb6H := Lib.hid (hb1.out.trans ((hb5H.out.trans (hb6.mono hb5H.out.size)).mono hb1.out.size))
      clear hb6
      go_wp2
      go_ret
      exact ⟨rfl, hb6H.out⟩
end Go.Proofs.YtdcglpagdnhkgaaGreatDoor
/- loftlaw11.WalkWrong: plain law. -/
set_option linter.unusedVariables false
set_option linter.unusedSimpArgs false
namespace Go.Proofs.YtdcglpagdnhkgaaGreatDoor
open Go.RowKit Go.Shelf
theorem checkR_val (R : Nat → Option (List Nat)) (n x : Nat) : checkR R n x = 0 ∨ checkR R n x = 8 := by
  unfold checkR
  split
  · exact .inl rfl
  · split
    · exact .inr rfl
    · split
      · exact .inr rfl
      · split
        · exact .inr rfl
        · split
          · exact .inr rfl
          · exact .inl rfl
theorem chkL_pre {R : Nat → Option (List Nat)} {root : Nat} {L : List Nat} {c : Cst} (h : chkL R root L = some c) (i : Nat) : ∃ c', chkL R root (L.take i) = some c' := by
  cases hc : chkL R root (L.take i) with
  | some c' => exact ⟨c', rfl⟩
  | none =>
    have := chkL_none R root (L.take i) (L.drop i) hc
    rw [List.take_append_drop, h] at this
    cases this
theorem chkL_last {R : Nat → Option (List Nat)} {root : Nat} {L : List Nat} {c : Cst} (h : chkL R root L = some c) {i : Nat} (hi : i < L.length) {c' : Cst} (hc : chkL R root (L.take (i + 1)) = some c') : c'.first = false ∧ c'.last = (pairP R L[i]).1 := by
  rw [List.take_succ_eq_append_getElem hi, chkL_snoc] at hc
  cases h1 : chkL R root (L.take i) with
  | none => rw [h1] at hc; cases hc
  | some c1 =>
    rw [h1, Option.bind_some] at hc
    unfold Cst.step at hc
    split at hc
    · cases hc
    · cases h3 : chk3 c1.S [L[i], (nodeG R L[i]).key, (nodeG R L[i]).val] with
      | none => rw [h3] at hc; cases hc
      | some S =>
        rw [h3] at hc
        simp only [Option.map_some, Option.some.injEq] at hc
        subst hc
        exact ⟨rfl, rfl⟩
theorem chk_told {R : Nat → Option (List Nat)} {root : Nat} {L : List Nat} {c : Cst} (h : chkL R root L = some c) {i : Nat} (hi : i < L.length) :
    pairE R L[i] = 0 ∧ ∀ (h0 : 0 < i), Tx.cmp (pairP R (L[i - 1]'(by omega))).1 (pairP R L[i]).1 < 0 := by
  obtain ⟨c2, hc2⟩ := chkL_pre h (i + 1)
  rw [List.take_succ_eq_append_getElem hi, chkL_snoc] at hc2
  obtain ⟨c1, hc1⟩ := chkL_pre h i
  rw [hc1, Option.bind_some] at hc2
  unfold Cst.step at hc2
  by_cases hb : c1.bad R L[i] = true
  · rw [if_pos hb] at hc2; cases hc2
  · unfold Cst.bad at hb
    simp only [Bool.or_eq_true, Bool.and_eq_true, bne_iff_ne, not_or, decide_eq_true_eq, Bool.not_eq_true'] at hb
    refine ⟨Decidable.not_not.1 hb.1, fun h0 => ?_⟩
    obtain ⟨j, rfl⟩ : ∃ j, i = j + 1 := ⟨i - 1, by omega⟩
    obtain ⟨f1, f2⟩ := chkL_last h (i := j) (by omega) hc1
    have h3 := hb.2.1
    rw [f1, f2] at h3
    simp only [true_and] at h3
    simp only [Nat.add_sub_cancel]
    omega
theorem checkR_of {R : Nat → Option (List Nat)} {n root : Nat} (h0 : root ≠ 0) (h1 : nodeE R root = 0) {c : Cst} (hc : chkL R root (inR R n root) = some c) (hA : c.sides.any (fun x => x != 0 && !c.S.contains x) = false) (hB : ¬ (3 * (nodeG R root).size) % 18446744073709551616 = c.S.length) : checkR R n root = 8 := by
  unfold checkR
  rw [if_neg h0, if_neg (by simp [h1]), hc]
  simp only [hA, Bool.false_eq_true, if_false]
  exact if_pos hB
theorem checkR_side {R : Nat → Option (List Nat)} {n root : Nat} (h0 : root ≠ 0) (h1 : nodeE R root = 0) {c : Cst} (hc : chkL R root (inR R n root) = some c) (hA : c.sides.any (fun x => x != 0 && !c.S.contains x) = true) : checkR R n root = 8 := by
  unfold checkR
  rw [if_neg h0, if_neg (by simp [h1]), hc]
  simp only [hA, if_true]
theorem three_inj {a b M : Nat} (hM : M = 18446744073709551616) (h : (3 * a) % M = 3 * b) (ha : a < M) (hb : b ≤ 40000) : a = b := by
  have h1 := Nat.div_add_mod (3 * a) M
  rw [h] at h1
  have h2 : 3 * a / M < 3 := Nat.div_lt_of_lt_mul (by omega)
  generalize 3 * a / M = q at *
  clear h
  have h3 : q = 0 ∨ q = 1 ∨ q = 2 := by omega
  rcases h3 with rfl | rfl | rfl
  · omega
  · rw [Nat.mul_one, hM] at h1; omega
  · rw [hM] at h1; omega
/-- what a Check that tells OK shows -/
theorem check_ok {R : Nat → Option (List Nat)} {n root : Nat} (h0 : root ≠ 0) (h : checkR R n root = 0) (hs : (nodeG R root).size < 18446744073709551616) (hn : n ≤ 262144) : (∃ c, chkL R root (inR R n root) = some c) ∧ tsizeR R root = ((inR R n root).length : Nat) := by
  have hlen := inR_len R n root
  have hlen2 : (inR R n root).length ≤ 40000 := by omega
  by_cases h1 : nodeE R root = 0
  · cases hc : chkL R root (inR R n root) with
    | none =>
      unfold checkR at h
      rw [if_neg h0, if_neg (by simp [h1]), hc] at h
      cases h
    | some c =>
      refine ⟨⟨c, rfl⟩, ?_⟩
      obtain ⟨l1, _⟩ := chkL_len hc
      cases hA : c.sides.any (fun x => x != 0 && !c.S.contains x) with
      | true =>
        rw [checkR_side h0 h1 hc hA] at h
        cases h
      | false =>
        by_cases hB : (3 * (nodeG R root).size) % 18446744073709551616 = c.S.length
        · rw [l1] at hB
          have h9 := three_inj rfl hB hs hlen2
          clear hB
          unfold tsizeR
          rw [h9, IntWalk.wrap64_in _ (by omega)]
        · rw [checkR_of h0 h1 hc hA hB] at h
          cases h
  · unfold checkR at h
    rw [if_neg h0, if_pos h1] at h
    cases h
/-- an index of hs -/
theorem idx_any (a : Int) (n : Nat) (hn : 0 < n) : ∃ i : Nat, i < n ∧ (a.tmod n + n).tmod n = (i : Int) ∧ -(n : Int) < a.tmod n ∧ a.tmod n < n := by
  have h1 := Int.tmod_lt_of_pos a (show (0 : Int) < n by omega)
  have h2 : -(n : Int) < a.tmod n := by
    have := Int.lt_tmod_of_pos a (show (0 : Int) < n by omega)
    omega
  refine ⟨((a.tmod n + n).tmod n).toNat, ?_, ?_, h2, h1⟩
  · have := Int.tmod_lt_of_pos (a.tmod n + n) (show (0 : Int) < n by omega)
    have := Int.tmod_nonneg (n : Int) (show 0 ≤ a.tmod n + n by omega)
    omega
  · have := Int.tmod_nonneg (n : Int) (show 0 ≤ a.tmod n + n by omega)
    omega
end Go.Proofs.YtdcglpagdnhkgaaGreatDoor
/- loftlaw11.WalkWrong: the walk. -/
set_option linter.unusedVariables false
set_option linter.unusedSimpArgs false
namespace Go.Proofs.YtdcglpagdnhkgaaGreatDoor
open Go.RowKit Go.Shelf
/-- the key behind which a round stands -/
def lastK (R : Nat → Option (List Nat)) (L : List Nat) : Nat → ByteArray
  | 0 => ⟨#[]⟩
  | k + 1 => (pairP R (L[k]?.getD 0)).1
set_option maxHeartbeats 1000000 in
set_option maxRecDepth 100000 in
theorem wrong_0 {w : World} (hT : Tab w) (l : List Pr) (A A' : Option Addr) (c c' m : Nat) (a : Int) (x : Nd) (sd : Bool) (key : ByteArray) (h : ILaw w A l) (hk : key.size ≤ 9223372036854775807)
    (hg : 30 < l.length ∨ (l.length ≤ 30 ∧ longL l = true) ∨ (l.length ≤ 30 ∧ longL l = false ∧ 1000 < key.size)) :
    Calls Tryz.prog 6 #[.slice A l.length c, .slice A' m c', .int .i64 a, x.v, .bool sd, .string key] w (TrueB w) := by
  obtain ⟨W0, hW0⟩ : ∃ W, W = w.alloc (Obj.cells #[Value.int IntKind.u64 (x.key : Nat), Value.int IntKind.u64 (x.val : Nat), Value.int IntKind.u64 (x.left : Nat), Value.int IntKind.u64 (x.right : Nat), Value.int IntKind.u64 (x.mark : Nat), Value.int IntKind.u64 (x.size : Nat)] 50) := ⟨_, rfl⟩
  have hb0 : Below w.heap.size w W0 := by rw [hW0]; exact (Below.refl _ w).alloc (Nat.le_refl _) _
  have hA := Lib.hid (awake_at (hT.below hb0 (tab_lt hT)))
  have hL := Lib.hid (refLong_at (c := c) (h.1.prs.below hb0) h.2.2 h.2.1)
  have z1 := h.2.2
  have hb0H := Lib.hid hb0
  have hW0H := Lib.hid hW0
  clear hT h hb0 hW0
  unfold TrueB Nd.v
  rcases hg with hg | ⟨g1, g3⟩ | ⟨g1, g3, g5⟩
  · have d1 : decide ((30 : Int) < (l.length : Int)) = true := by simp; omega
    go_enter Tryz.func6, Tryz.ntmps6
    go_wp2_with fail
    rw [← hW0H.out]
    refine hA.out.mono ?_
    rintro e w1 ⟨rfl, hb1⟩
    have hbH := Lib.hid (hb0H.out.trans (hb1.mono hb0H.out.size))
    clear hb1
    go_wp2
    go_ret
    exact ⟨rfl, hbH.out⟩
  all_goals
    have d1 : decide ((30 : Int) < (l.length : Int)) = false := by simp; omega
    have hLa := Lib.hid (by have := hL.out; rw [g3] at this; exact this)
    clear hL g3
    go_enter Tryz.func6, Tryz.ntmps6
    go_wp2_with fail
    rw [← hW0H.out]
    refine hLa.out.mono ?_
    rintro e w0 ⟨rfl, rfl⟩
    go_wp2_with fail
    refine hA.out.mono ?_
    rintro e w1 ⟨rfl, hb1⟩
    have hbH := Lib.hid (hb0H.out.trans (hb1.mono hb0H.out.size))
    clear hb1
    go_wp2
    go_ret
    exact ⟨rfl, hbH.out⟩
set_option maxHeartbeats 4000000 in
set_option maxRecDepth 100000 in
theorem wrong_main {w : World} (hT : Tab w) (l : List Pr) (A A' : Option Addr) (c c' : Nat) (zs : List Int) (a : Int) (x : Nd) (sd : Bool) (key : ByteArray) (h : ILaw w A l) (hz : IInts w A' zs) (hab : -9223372036854775808 ≤ a ∧ a ≤ 9223372036854775807) (hx : x.Ok) (hk : key.size ≤ 1000) (g1 : l.length ≤ 30) (g3 : longL l = false) :
    Calls Tryz.prog 6 #[.slice A l.length c, .slice A' zs.length c', .int .i64 a, x.v, .bool sd, .string key] w (TrueB w) := by
  obtain ⟨W0, hW0⟩ : ∃ W, W = w.alloc (Obj.cells #[Value.int IntKind.u64 (x.key : Nat), Value.int IntKind.u64 (x.val : Nat), Value.int IntKind.u64 (x.left : Nat), Value.int IntKind.u64 (x.right : Nat), Value.int IntKind.u64 (x.mark : Nat), Value.int IntKind.u64 (x.size : Nat)] 50) := ⟨_, rfl⟩
  have hb0 : Below w.heap.size w W0 := by rw [hW0]; exact (Below.refl _ w).alloc (Nat.le_refl _) _
  have hsz0 : W0.heap.size = w.heap.size + 1 := by rw [hW0]; simp
  have hbx : NdBox W0 w.heap.size x := by rw [hW0]; exact ndBox_new w x
  have hT0 := hT.below hb0 (tab_lt hT)
  have hTw := Lib.hid hT
  have hTH := Lib.hid hT0
  have hL := refLong_at (c := c) (h.1.prs.below hb0) h.2.2 h.2.1
  rw [g3] at hL
  have hLH := Lib.hid hL
  have hcf1 := Ints_off (F := fun b => W0.heap.size ≤ b) h.1 hb0 (fun b hb => Nat.le_trans hb0.size hb) hb0.size
  have hcf2 := Ints_off (F := fun b => W0.heap.size ≤ b) hz.1 hb0 (fun b hb => Nat.le_trans hb0.size hb) hb0.size
  have hM := Lib.hid (made_at (c := c) (c' := c') hT0 hcf1 (by omega) (sized_of g3) hz.2.1 hz.2.2 hcf2)
  have d1 : decide ((30 : Int) < (l.length : Int)) = false := by simp; omega
  have hsl := sortedL_len l
  have hb0H := Lib.hid hb0
  have hW0H := Lib.hid hW0
  have hbxH := Lib.hid hbx
  have hxok := Lib.hid hx
  clear hT h hb0 hW0 hT0 hL g3 hcf1 hcf2 hz hbx hx hsz0
  unfold TrueB Nd.v
  go_enter Tryz.func6, Tryz.ntmps6
  go_wp2_with fail
  rw [← hW0H.out]
  refine hLH.out.mono ?_
  rintro e w0 ⟨rfl, rfl⟩
  go_wp2_with fail
  refine hM.out.mono ?_
  rintro e w1 ⟨s, t, F, R, H, B, cB, rfl, hmo⟩
  obtain ⟨n, hTR, _⟩ := hmo.tree rfl
  have hmoH := Lib.hid hmo
  generalize sortedL l = m at *
  have hTR1 := Lib.hid hTR
  have hLi := Lib.hid (tlist_at hTR)
  clear hmo hTR hLH hM
  go_wp2_with fail
  refine hLi.out.mono ?_
  rintro e w2 ⟨v, rfl, hro, hb2⟩
  have hbw2 := Lib.hid (hb0H.out.trans ((hmoH.out.bel.trans (hb2.mono hmoH.out.bel.size)).mono hb0H.out.size))
  have hTR2 := Lib.hid (hTR1.out.below hb2)
  have hS2 := Lib.hid (hmoH.out.st.below hb2)
  have hT2 := Lib.hid (hTH.out.below (hmoH.out.bel.trans (hb2.mono hmoH.out.bel.size)) (tab_lt hTH.out))
  by_cases hm0 : m.length = 0
  · obtain ⟨A2, cc, rfl⟩ := ownsRow_form hro
    have dm : ((m.length : Int) == 0) = true := by rw [hm0]; rfl
    have hTN := Lib.hid (treeNil hTR2.out.rd hTR2.out.sh hTR2.out.z)
    have hC := fun W (hb : Below w2.heap.size w2 W) => tcheck_at (hTN.out.below hb)
    rw [show ((BT.root .nil : Nat) : Int) = 0 from rfl] at hC
    have hSz := fun W (hb : Below w2.heap.size w2 W) => tsize_at (hTN.out.below hb)
    rw [show ((BT.root .nil : Nat) : Int) = 0 from rfl, show ((([] : List Pr).length : Nat) : Int) = 0 from rfl] at hSz
    have hCH := Lib.hid hC
    have hSzH := Lib.hid hSz
    clear hro hb2 hC hSz hLi
    go_wp2_with fail
    refine (hCH.out _ (Below.refl _ _)).mono ?_
    rintro e w3 ⟨rfl, hb3⟩
    have hb3H := Lib.hid hb3
    clear hb3
    go_wp2_with fail
    refine (hSzH.out _ hb3H.out).mono ?_
    rintro e w4 ⟨rfl, hb4⟩
    have hb4H := Lib.hid (hb3H.out.trans (hb4.mono hb3H.out.size))
    have hAw := Lib.hid (awake_at (hT2.out.below hb4H.out (tab_lt hT2.out)))
    clear hb4
    go_wp2_with fail
    refine hAw.out.mono ?_
    rintro e w5 ⟨rfl, hb5⟩
    have hb5H := Lib.hid (hbw2.out.trans ((hb4H.out.trans (hb5.mono hb4H.out.size)).mono hbw2.out.size))
    clear hb5
    go_wp2
    go_ret
    exact ⟨rfl, hb5H.out⟩
  · have dm : ((m.length : Int) == 0) = false := beq_eq_false_iff_ne.2 (by omega)
    obtain ⟨g, cc, rfl⟩ := row_pos hro (by omega)
    have hgW : Hid (W0.heap.size ≤ g) := Lib.hid (Nat.le_trans hmoH.out.bel.size (own_lt hro (k := g) (by simp [Value.ownBlock])).1)
    have hnl := Lib.hid hTR1.out.nodes_len
    have hcells : Hid (∀ i (hi2 : i < t.nodes.length), w2.cell? ⟨g, i, none⟩ = some (.int .u64 (t.nodes[i] : Nat))) := Lib.hid (fun i hi2 => by
      have h1 := hro.cells (g := g) rfl i (.int .u64 (t.nodes[i] : Nat)) (by rw [hsV, List.getElem?_map, List.getElem?_eq_getElem hi2]; rfl)
      rw [show (⟨g, 0, none⟩ : Addr).add i = ⟨g, i, none⟩ by unfold Addr.add; split <;> simp_all] at h1
      exact h1)
    obtain ⟨ix, hix, hixe, hi1, hi2⟩ := idx_any a m.length (by omega)
    have hixn : ix < t.nodes.length := by rw [hnl.out]; exact hix
    have hc1 := hcells.out ix hixn
    obtain ⟨hh, hhe⟩ : ∃ hh, t.nodes[ix] = hh := ⟨_, rfl⟩
    rw [hhe] at hc1
    have hhin : hh ∈ t.nodes := hhe ▸ List.getElem_mem hixn
    obtain ⟨nd, hnd⟩ := BT.nodes_six t hTR1.out.at' hh hhin
    have hhlt := hTR1.out.node_lt hhin
    obtain ⟨e1, e2⟩ := nodeR_at hnd
    have hb2H := Lib.hid hb2
    have hG := Lib.hid (nget_lit hTR2.out.rd hh hhlt nd e2 0 e1)
    have hndok := Lib.hid (e2 ▸ hTR2.out.rd.nodeG hh)
    have hndH := Lib.hid hnd
    clear hro hb2 hLi hnd e1 e2 hhin hhe
    go_wp2_with fail
    refine hG.out.mono ?_
    rintro e w3 ⟨rfl, hb3⟩
    have hz3 := hb3.size
    have hbx3 : NdBox w3 w.heap.size x := by
      have h1 : w.heap.size < W0.heap.size := (Array.getElem?_eq_some_iff.1 hbxH.out).1
      have hb9 : Below W0.heap.size W0 w3 := hmoH.out.bel.trans ((hb2H.out.trans (hb3.mono hb2H.out.size)).mono hmoH.out.bel.size)
      exact (hb9.block _ h1).trans hbxH.out
    obtain ⟨q0, q1, q2, q3, q4, q5⟩ := hbx3.cells
    have hlx3 : w.heap.size < w3.heap.size := (Array.getElem?_eq_some_iff.1 hbx3).1
    have hxl := hxok.out.left
    have hb2z := Lib.hid hb3
    have hb2z := Lib.hid hb3
    have hb2z := Lib.hid hb3
    have hb2z := Lib.hid hb3
    have hb2z := Lib.hid hb3
    have hb2z := Lib.hid hb3
    have hb2z := Lib.hid hb3
    have hb2z := Lib.hid hb3
    have hb2z := Lib.hid hb3
    have hb2z := Lib.hid hb3
    have hb2z := Lib.hid hb3
    have hb2z := Lib.hid hb3
    have hb2z := Lib.hid hb3
    have hb2z := Lib.hid hb3
    have hb2z := Lib.hid hb3
    cases sd with
    | true =>
      have hj : ((x.left % 64) % m.length) < m.length := Nat.mod_lt _ (by omega)
      obtain ⟨jx, hjx⟩ : ∃ jx, (x.left % 64) % m.length = jx := ⟨_, rfl⟩
      rw [hjx] at hj
      have hje : (x.left : Int) % 64 % (m.length : Int) = (jx : Int) := by rw [← hjx]; push_cast; rfl
      have hjn : jx < t.nodes.length := by rw [hnl.out]; exact hj
      have hcj := hcells.out jx hjn
      obtain ⟨y, hy⟩ : ∃ y, t.nodes[jx] = y := ⟨_, rfl⟩
      rw [hy] at hcj
      have hylt := hTR2.out.node_lt (hy ▸ List.getElem_mem hjn)
      have f0 : ∀ j, w3.frozen? ⟨w.heap.size, j, none⟩ = false := fun j => by
        have h1 : w.heap.size < W0.heap.size := (Array.getElem?_eq_some_iff.1 hbxH.out).1
        have hb9 : Below W0.heap.size W0 w3 := hmoH.out.bel.trans ((hb2H.out.trans (hb2z.out.mono hb2H.out.size)).mono hmoH.out.bel.size)
        rw [hb9.frozen (p := ⟨w.heap.size, j, none⟩) h1, hW0H.out]
        go_simp
      have f00 := f0 0
      have f01 := f0 1
      have f02 := f0 2
      have f03 := f0 3
      have f04 := f0 4
      have f05 := f0 5

      have hb4 : Below w2.heap.size w2 (w3.alloc (Obj.cells #[Value.int IntKind.u64 (nd.key : Nat), Value.int IntKind.u64 (nd.val : Nat), Value.int IntKind.u64 (nd.left : Nat), Value.int IntKind.u64 (nd.right : Nat), Value.int IntKind.u64 (nd.mark : Nat), Value.int IntKind.u64 (nd.size : Nat)] 50)) := (hb2z.out).alloc hb2z.out.size _
      have hFl : Hid (∀ b, F b → w.heap.size ≤ b) := Lib.hid (fun b hb => Nat.le_trans hb0H.out.size (hmoH.out.Fl b hb))
      have hbw4 := Lib.hid (hbw2.out.trans (hb4.mono hbw2.out.size))
      have hcj4 := (hb4.cell (p := ⟨g, jx, none⟩) (cell_lt hcj)).trans hcj
      have hxn : (Nd.mk nd.key nd.val y nd.right nd.mark nd.size).Ok := ⟨hndok.out.key, hndok.out.val, hylt, hndok.out.right, hndok.out.mark, hndok.out.size⟩
      have hwx : w.heap.size < W0.heap.size := (Array.getElem?_eq_some_iff.1 hbxH.out).1
      have hS3 := hS2.out.below hb2z.out
      obtain ⟨W5, hW5⟩ : ∃ W5, W5 = (setSix w3 w.heap.size (Value.int IntKind.u64 (nd.key : Nat)) (Value.int IntKind.u64 (nd.val : Nat)) (Value.int IntKind.u64 (y : Nat)) (Value.int IntKind.u64 (nd.right : Nat)) (Value.int IntKind.u64 (nd.mark : Nat)) (Value.int IntKind.u64 (nd.size : Nat))) := ⟨_, rfl⟩
      have hkb : KB (fun k => k = w.heap.size) w3 W5 := by rw [hW5]; exact setSix_kb _ _ _ _ _ _ _ _
      have hS5 := Lib.hid (hS3.kb hkb (fun k hk hF => by have := hmoH.out.Fl k hF; omega) (by have := hmoH.out.sl; omega) (fun k hk p e => by rw [hk, q0] at e; cases e) (by have := tab_lt hTw.out; omega))
      have hbw5 : Hid (Below w.heap.size w W5) := Lib.hid (by rw [hW5]; exact setSix_below (hbw2.out.trans (hb2z.out.mono hbw2.out.size)) (Nat.le_refl _) _ _ _ _ _ _)
      have hW5H := Lib.hid hW5
      clear hjx hcj hy hS3 hkb f0 hW5
      go_wp2_with fail
      clear f00 f01 f02 f03 f04 f05 q0 q1 q2 q3 q4 q5
      rw [setSix_eq, ← hW5H.out]
      have hb56 : Below W5.heap.size W5 (W5.alloc (Obj.cells #[Value.int IntKind.u64 (nd.key : Nat), Value.int IntKind.u64 (nd.val : Nat), Value.int IntKind.u64 (y : Nat), Value.int IntKind.u64 (nd.right : Nat), Value.int IntKind.u64 (nd.mark : Nat), Value.int IntKind.u64 (nd.size : Nat)] 50)) := (Below.refl _ _).alloc (Nat.le_refl _) _
      have hput := nput_at (hS5.out.below hb56) hndH.out rfl ⟨nd.key, nd.val, y, nd.right, nd.mark, nd.size⟩ hxn
      have hbwW := Lib.hid (hbw5.out.trans (hb56.mono hbw5.out.size))
      clear hb56

      unfold Nd.v at hput
      have hputH := Lib.hid hput
      clear hput
      refine hputH.out.mono ?_
      rintro e w6 ⟨rfl, hS6, hT6⟩
      obtain ⟨n6, hrd6, _⟩ := hS6.rd
      have hsh6 := Lib.hid (hTR2.out.sh.upd hh (some (Nd.mk nd.key nd.val y nd.right nd.mark nd.size).ws) (fun ws e => by cases e; simp [Nd.ws]))
      obtain ⟨R6, hR6⟩ : ∃ R6, R6 = updR R hh (some (Nd.mk nd.key nd.val y nd.right nd.mark nd.size).ws) := ⟨_, rfl⟩
      rw [← hR6] at hS6 hrd6 hsh6
      have hbw6 := Lib.hid (hbwW.out.trans (hT6.to_below hbwW.out.size hFl.out))
      have hTb6 := Lib.hid (hTw.out.below hbw6.out (tab_lt hTw.out))
      have hroot := hTR2.out.root_lt
      have hroot0 : Hid (t.root ≠ 0) := Lib.hid (by
        cases ht : t with
        | nil => have h9 := BT.prs_len t; rw [hmoH.out.prs, ht] at h9; have h10 : m.length = 0 := h9; omega
        | node y kh vh mm k v l r => have h9 := hTR2.out.at'; rw [ht] at h9; exact h9.1)
      have hFd := Lib.hid (find_at' hrd6 hsh6.out t.root hroot key)
      have hRk := Lib.hid (fun W (hb : Below w6.heap.size w6 W) => rank_at (hrd6.below hb) hsh6.out t.root hroot key)
      have hWt := Lib.hid (fun W (hb : Below w6.heap.size w6 W) k => wat_at (hrd6.below hb) t.root hroot k)
      have hLs := Lib.hid (fun W (hb : Below w6.heap.size w6 W) => list_at (hrd6.below hb) t.root hroot)
      have hCk := Lib.hid (fun W (hb : Below w6.heap.size w6 W) => check_at (hrd6.below hb) hsh6.out t.root hroot)
      have hPr := Lib.hid (fun W (hb : Below w6.heap.size w6 W) y hy => pair_at (hrd6.below hb) hsh6.out y hy)
      have hSz := Lib.hid (fun W (hb : Below w6.heap.size w6 W) => size_at (hrd6.below hb) t.root hroot)
      have hFe := Lib.hid (fun W (hb : Below w6.heap.size w6 W) hc => wfree_err (hrd6.below hb) hsh6.out t.root hroot hc)
      have hAw := Lib.hid (fun W (hb : Below w6.heap.size w6 W) => awake_at (hTb6.out.below hb (tab_lt hTb6.out)))
      have hLen := inR_len R6 n6 t.root
      have hle6 := hrd6.le
      have hLlt := Lib.hid (fun y (hy : y ∈ inR R6 n6 t.root) => inR_lt (fun z => hrd6.nodeG z) hroot y hy)
      have hok := Lib.hid (fun hC0 => check_ok (R := R6) (n := n6) hroot0.out hC0 (hrd6.nodeG t.root).size hle6)
      clear hS6 hT6 hrd6 hsh6 hR6 hputH
      generalize inR R6 n6 t.root = L at *
      have hval := Lib.hid (checkR_val R6 n6 t.root)
      generalize checkR R6 n6 t.root = C at *
      generalize tsizeR R6 t.root = Z at *
      go_wp2_with fail
      refine hFd.out.mono ?_
      rintro e w7 ⟨rfl, hb7⟩
      have hb7H := Lib.hid hb7
      clear hb7 hFd
      go_wp2_with fail
      refine (hRk.out _ hb7H.out).mono ?_
      rintro e w8 ⟨rfl, hb8⟩
      have hb8H := Lib.hid (hb7H.out.trans (hb8.mono hb7H.out.size))
      clear hb8 hRk
      go_wp2_with fail
      refine (hWt.out _ hb8H.out _).mono ?_
      rintro e w9 ⟨rfl, hb9⟩
      have hb9H := Lib.hid (hb8H.out.trans (hb9.mono hb8H.out.size))
      clear hb9 hWt
      go_wp2_with fail
      refine (hLs.out _ hb9H.out).mono ?_
      rintro e w10 ⟨v10, rfl, hro10, hb10⟩
      obtain ⟨A10, c10, rfl⟩ := ownsRow_form hro10
      have hb10H := Lib.hid (hb9H.out.trans (hb10.mono hb9H.out.size))
      have hcl : Hid (∀ i (hi : i < L.length), ∃ g, A10 = some ⟨g, 0, none⟩ ∧ ∀ W, Below w10.heap.size w10 W → W.cell? ⟨g, i, none⟩ = some (.int .u64 (L[i] : Nat))) := Lib.hid (fun i hi => by
        obtain ⟨g, cap, hv⟩ := row_pos hro10 (by omega)
        cases hv
        refine ⟨g, rfl, fun W hb => ?_⟩
        have h1 := hro10.cells (g := g) rfl i (.int .u64 (L[i] : Nat)) (by rw [hsV, List.getElem?_map, List.getElem?_eq_getElem hi]; rfl)
        rw [show (⟨g, 0, none⟩ : Addr).add i = ⟨g, i, none⟩ by unfold Addr.add; split <;> simp_all] at h1
        exact (hb.cell (p := ⟨g, i, none⟩) (cell_lt h1)).trans h1)
      clear hb10 hro10 hLs
      go_wp2_with fail
      refine (hCk.out _ hb10H.out).mono ?_
      rintro e w11 ⟨rfl, hb11⟩
      have hb11H := Lib.hid (hb10H.out.trans (hb11.mono hb10H.out.size))
      have hb1011 := Lib.hid hb11
      clear hb11 hCk
      by_cases hC0 : C = 0
      · obtain ⟨⟨cst, hcst⟩, hZ⟩ := hok.out hC0
        have dC : ((C : Int) != 0) = false := by rw [hC0]; rfl
        have hcstH := Lib.hid hcst
        have hZH := Lib.hid hZ
        clear hC0 hcst hZ hok hFe
        go_wp2_with fail
        go_loopw [22, 23] (fun lv iv wr => ∃ k : Nat, k ≤ L.length ∧ iv = .int .i64 k ∧ lv = .string (lastK R6 L k) ∧ Hid (Below w10.heap.size w10 wr)) (fun _ iv _ => L.length - (intOf iv).toNat)
        case atStart => exact ⟨0, by omega, rfl, rfl, hb1011⟩
        case round =>
          obtain ⟨k, hk9, rfl, rfl, hbr⟩ := hrel
          by_cases hlt : k < L.length
          · obtain ⟨tE, tK⟩ := chk_told hcstH.out hlt
            obtain ⟨g9, hA9, hg9⟩ := hcl.out k hlt
            have hbr6 := Lib.hid (hb10H.out.trans (hbr.out.mono hb10H.out.size))
            have hPk := hPr.out wr hbr6.out L[k] (hLlt.out _ (List.getElem_mem hlt))
            unfold prV at hPk
            rw [tE] at hPk
            have hcmp : k = 0 ∨ (0 < k ∧ Tx.cmp (lastK R6 L k) (pairP R6 L[k]).1 < 0) := by
              cases k with
              | zero => exact .inl rfl
              | succ k' =>
                right
                refine ⟨by omega, ?_⟩
                have h9 := tK (by omega)
                unfold lastK
                simp only
                rw [List.getElem?_eq_getElem (by omega)]
                exact h9
            have hnx : lastK R6 L (k + 1) = (pairP R6 L[k]).1 := by
              unfold lastK
              simp only
              rw [List.getElem?_eq_getElem hlt]
              rfl
            have hc9 := hg9 wr hbr.out
            obtain ⟨y, hy⟩ : ∃ y, L[k] = y := ⟨_, rfl⟩
            simp only [hy] at hPk hcmp hnx hc9
            obtain ⟨pk, hpk⟩ : ∃ pk, (pairP R6 y).1 = pk := ⟨_, rfl⟩
            obtain ⟨pv, hpv⟩ : ∃ pv, (pairP R6 y).2 = pv := ⟨_, rfl⟩
            simp only [hpk, hpv] at hPk hcmp hnx
            obtain ⟨lk, hlk⟩ : ∃ lk, lastK R6 L k = lk := ⟨_, rfl⟩
            simp only [hlk] at hcmp ⊢
            have hPkH := Lib.hid hPk
            have hnxH := Lib.hid hnx
            have hcmpH := Lib.hid hcmp
            subst hA9
            clear hPk hnx hcmp hpk hpv hlk hy tE tK hg9
            go_wp2_with fail
            refine hPkH.out.mono ?_
            rintro e w12 ⟨rfl, hb12⟩
            have hb12H := Lib.hid (hbr.out.trans (hb12.mono hbr.out.size))
            have hz12 := hb12H.out.size
            have hb13H := Lib.hid (hb12H.out.alloc hz12 (Obj.cells #[Value.string pk, Value.string pv] 39))
            clear hb12 hc9
            rcases hcmpH.out with hk0 | ⟨hk0, hcm⟩
            · have dk : decide ((0 : Int) < (k : Int)) = false := decide_eq_false (by omega)
              have dk2 : decide (0 < k) = false := decide_eq_false (by omega)
              clear hk0 hcmpH
              go_wp2
              go_roundw
              case rel => exact ⟨k + 1, by omega, by go_num, by rw [hnxH.out], hb13H⟩
              case measure => simp [intOf]; omega
            · have dk : decide ((0 : Int) < (k : Int)) = true := decide_eq_true (by omega)
              have dk2 : decide (0 < k) = true := decide_eq_true (by omega)
              have hsw := cmp_swap pk lk
              have db1 : Op.bytesLess pk.toList lk.toList = false := by rw [str_less]; exact decide_eq_false (by omega)
              have db2 : (pk.toList == lk.toList) = false := by rw [str_beq]; exact decide_eq_false (fun e => by rw [e] at hcm; have := (cmp_zero (a := lk) (b := lk)).2 rfl; omega)
              clear hcm hcmpH hsw
              go_wp2
              go_roundw
              case rel => exact ⟨k + 1, by omega, by go_num, by rw [hnxH.out], hb13H⟩
              case measure => simp [intOf]; omega
          · obtain rfl : k = L.length := by omega
            have hbr6 := Lib.hid (hb10H.out.trans (hbr.out.mono hb10H.out.size))
            have hSz2 := hSz.out _ hbr6.out
            rw [hZH.out] at hSz2
            have hSz2H := Lib.hid hSz2
            clear hSz2
            go_wp2_with fail
            refine hSz2H.out.mono ?_
            rintro e w13 ⟨rfl, hb13⟩
            have hb13H := Lib.hid (hbr6.out.trans (hb13.mono hbr6.out.size))
            clear hb13
            go_wp2_with fail
            refine (hAw.out _ hb13H.out).mono ?_
            rintro e w14 ⟨rfl, hb14⟩
            have hb14H := Lib.hid (hbw6.out.trans ((hb13H.out.trans (hb14.mono hb13H.out.size)).mono hbw6.out.size))
            clear hb14
            go_wp2
            go_ret
            exact ⟨rfl, hb14H.out⟩
      · have hC8 : C = 8 := hval.out.resolve_left hC0
        have dC : ((C : Int) != 0) = true := by rw [hC8]; rfl
        have hFe2 := hFe.out _ hb11H.out hC0
        rw [hC8] at hFe2
        have hFe2H := Lib.hid hFe2
        clear hC0 hC8 hFe2 hFe hok
        go_wp2_with fail
        refine hFe2H.out.mono ?_
        rintro e w12 ⟨rfl, hb12⟩
        have hb12H := Lib.hid (hb11H.out.trans (hb12.mono hb11H.out.size))
        clear hb12
        go_wp2_with fail
        refine (hAw.out _ hb12H.out).mono ?_
        rintro e w14 ⟨rfl, hb14⟩
        have hb14H := Lib.hid (hbw6.out.trans ((hb12H.out.trans (hb14.mono hb12H.out.size)).mono hbw6.out.size))
        clear hb14
        go_wp2
        go_ret
        exact ⟨rfl, hb14H.out⟩
    | false =>
      go_wp2_with fail

      have hb4 : Below w2.heap.size w2 (w3.alloc (Obj.cells #[Value.int IntKind.u64 (nd.key : Nat), Value.int IntKind.u64 (nd.val : Nat), Value.int IntKind.u64 (nd.left : Nat), Value.int IntKind.u64 (nd.right : Nat), Value.int IntKind.u64 (nd.mark : Nat), Value.int IntKind.u64 (nd.size : Nat)] 50)) := (hb2z.out).alloc hb2z.out.size _
      have hFl : Hid (∀ b, F b → w.heap.size ≤ b) := Lib.hid (fun b hb => Nat.le_trans hb0H.out.size (hmoH.out.Fl b hb))
      have hbw4 := Lib.hid (hbw2.out.trans (hb4.mono hbw2.out.size))
      have hput := nput_at (hS2.out.below hb4) hndH.out rfl x hxok.out
      have hbwW := hbw4
      clear hb4 q0 q1 q2 q3 q4 q5

      unfold Nd.v at hput
      have hputH := Lib.hid hput
      clear hput
      refine hputH.out.mono ?_
      rintro e w6 ⟨rfl, hS6, hT6⟩
      obtain ⟨n6, hrd6, _⟩ := hS6.rd
      have hsh6 := Lib.hid (hTR2.out.sh.upd hh (some x.ws) (fun ws e => by cases e; simp [Nd.ws]))
      obtain ⟨R6, hR6⟩ : ∃ R6, R6 = updR R hh (some x.ws) := ⟨_, rfl⟩
      rw [← hR6] at hS6 hrd6 hsh6
      have hbw6 := Lib.hid (hbwW.out.trans (hT6.to_below hbwW.out.size hFl.out))
      have hTb6 := Lib.hid (hTw.out.below hbw6.out (tab_lt hTw.out))
      have hroot := hTR2.out.root_lt
      have hroot0 : Hid (t.root ≠ 0) := Lib.hid (by
        cases ht : t with
        | nil => have h9 := BT.prs_len t; rw [hmoH.out.prs, ht] at h9; have h10 : m.length = 0 := h9; omega
        | node y kh vh mm k v l r => have h9 := hTR2.out.at'; rw [ht] at h9; exact h9.1)
      have hFd := Lib.hid (find_at' hrd6 hsh6.out t.root hroot key)
      have hRk := Lib.hid (fun W (hb : Below w6.heap.size w6 W) => rank_at (hrd6.below hb) hsh6.out t.root hroot key)
      have hWt := Lib.hid (fun W (hb : Below w6.heap.size w6 W) k => wat_at (hrd6.below hb) t.root hroot k)
      have hLs := Lib.hid (fun W (hb : Below w6.heap.size w6 W) => list_at (hrd6.below hb) t.root hroot)
      have hCk := Lib.hid (fun W (hb : Below w6.heap.size w6 W) => check_at (hrd6.below hb) hsh6.out t.root hroot)
      have hPr := Lib.hid (fun W (hb : Below w6.heap.size w6 W) y hy => pair_at (hrd6.below hb) hsh6.out y hy)
      have hSz := Lib.hid (fun W (hb : Below w6.heap.size w6 W) => size_at (hrd6.below hb) t.root hroot)
      have hFe := Lib.hid (fun W (hb : Below w6.heap.size w6 W) hc => wfree_err (hrd6.below hb) hsh6.out t.root hroot hc)
      have hAw := Lib.hid (fun W (hb : Below w6.heap.size w6 W) => awake_at (hTb6.out.below hb (tab_lt hTb6.out)))
      have hLen := inR_len R6 n6 t.root
      have hle6 := hrd6.le
      have hLlt := Lib.hid (fun y (hy : y ∈ inR R6 n6 t.root) => inR_lt (fun z => hrd6.nodeG z) hroot y hy)
      have hok := Lib.hid (fun hC0 => check_ok (R := R6) (n := n6) hroot0.out hC0 (hrd6.nodeG t.root).size hle6)
      clear hS6 hT6 hrd6 hsh6 hR6 hputH
      generalize inR R6 n6 t.root = L at *
      have hval := Lib.hid (checkR_val R6 n6 t.root)
      generalize checkR R6 n6 t.root = C at *
      generalize tsizeR R6 t.root = Z at *
      go_wp2_with fail
      refine hFd.out.mono ?_
      rintro e w7 ⟨rfl, hb7⟩
      have hb7H := Lib.hid hb7
      clear hb7 hFd
      go_wp2_with fail
      refine (hRk.out _ hb7H.out).mono ?_
      rintro e w8 ⟨rfl, hb8⟩
      have hb8H := Lib.hid (hb7H.out.trans (hb8.mono hb7H.out.size))
      clear hb8 hRk
      go_wp2_with fail
      refine (hWt.out _ hb8H.out _).mono ?_
      rintro e w9 ⟨rfl, hb9⟩
      have hb9H := Lib.hid (hb8H.out.trans (hb9.mono hb8H.out.size))
      clear hb9 hWt
      go_wp2_with fail
      refine (hLs.out _ hb9H.out).mono ?_
      rintro e w10 ⟨v10, rfl, hro10, hb10⟩
      obtain ⟨A10, c10, rfl⟩ := ownsRow_form hro10
      have hb10H := Lib.hid (hb9H.out.trans (hb10.mono hb9H.out.size))
      have hcl : Hid (∀ i (hi : i < L.length), ∃ g, A10 = some ⟨g, 0, none⟩ ∧ ∀ W, Below w10.heap.size w10 W → W.cell? ⟨g, i, none⟩ = some (.int .u64 (L[i] : Nat))) := Lib.hid (fun i hi => by
        obtain ⟨g, cap, hv⟩ := row_pos hro10 (by omega)
        cases hv
        refine ⟨g, rfl, fun W hb => ?_⟩
        have h1 := hro10.cells (g := g) rfl i (.int .u64 (L[i] : Nat)) (by rw [hsV, List.getElem?_map, List.getElem?_eq_getElem hi]; rfl)
        rw [show (⟨g, 0, none⟩ : Addr).add i = ⟨g, i, none⟩ by unfold Addr.add; split <;> simp_all] at h1
        exact (hb.cell (p := ⟨g, i, none⟩) (cell_lt h1)).trans h1)
      clear hb10 hro10 hLs
      go_wp2_with fail
      refine (hCk.out _ hb10H.out).mono ?_
      rintro e w11 ⟨rfl, hb11⟩
      have hb11H := Lib.hid (hb10H.out.trans (hb11.mono hb10H.out.size))
      have hb1011 := Lib.hid hb11
      clear hb11 hCk
      by_cases hC0 : C = 0
      · obtain ⟨⟨cst, hcst⟩, hZ⟩ := hok.out hC0
        have dC : ((C : Int) != 0) = false := by rw [hC0]; rfl
        have hcstH := Lib.hid hcst
        have hZH := Lib.hid hZ
        clear hC0 hcst hZ hok hFe
        go_wp2_with fail
        go_loopw [22, 23] (fun lv iv wr => ∃ k : Nat, k ≤ L.length ∧ iv = .int .i64 k ∧ lv = .string (lastK R6 L k) ∧ Hid (Below w10.heap.size w10 wr)) (fun _ iv _ => L.length - (intOf iv).toNat)
        case atStart => exact ⟨0, by omega, rfl, rfl, hb1011⟩
        case round =>
          obtain ⟨k, hk9, rfl, rfl, hbr⟩ := hrel
          by_cases hlt : k < L.length
          · obtain ⟨tE, tK⟩ := chk_told hcstH.out hlt
            obtain ⟨g9, hA9, hg9⟩ := hcl.out k hlt
            have hbr6 := Lib.hid (hb10H.out.trans (hbr.out.mono hb10H.out.size))
            have hPk := hPr.out wr hbr6.out L[k] (hLlt.out _ (List.getElem_mem hlt))
            unfold prV at hPk
            rw [tE] at hPk
            have hcmp : k = 0 ∨ (0 < k ∧ Tx.cmp (lastK R6 L k) (pairP R6 L[k]).1 < 0) := by
              cases k with
              | zero => exact .inl rfl
              | succ k' =>
                right
                refine ⟨by omega, ?_⟩
                have h9 := tK (by omega)
                unfold lastK
                simp only
                rw [List.getElem?_eq_getElem (by omega)]
                exact h9
            have hnx : lastK R6 L (k + 1) = (pairP R6 L[k]).1 := by
              unfold lastK
              simp only
              rw [List.getElem?_eq_getElem hlt]
              rfl
            have hc9 := hg9 wr hbr.out
            obtain ⟨y, hy⟩ : ∃ y, L[k] = y := ⟨_, rfl⟩
            simp only [hy] at hPk hcmp hnx hc9
            obtain ⟨pk, hpk⟩ : ∃ pk, (pairP R6 y).1 = pk := ⟨_, rfl⟩
            obtain ⟨pv, hpv⟩ : ∃ pv, (pairP R6 y).2 = pv := ⟨_, rfl⟩
            simp only [hpk, hpv] at hPk hcmp hnx
            obtain ⟨lk, hlk⟩ : ∃ lk, lastK R6 L k = lk := ⟨_, rfl⟩
            simp only [hlk] at hcmp ⊢
            have hPkH := Lib.hid hPk
            have hnxH := Lib.hid hnx
            have hcmpH := Lib.hid hcmp
            subst hA9
            clear hPk hnx hcmp hpk hpv hlk hy tE tK hg9
            go_wp2_with fail
            refine hPkH.out.mono ?_
            rintro e w12 ⟨rfl, hb12⟩
            have hb12H := Lib.hid (hbr.out.trans (hb12.mono hbr.out.size))
            have hz12 := hb12H.out.size
            have hb13H := Lib.hid (hb12H.out.alloc hz12 (Obj.cells #[Value.string pk, Value.string pv] 39))
            clear hb12 hc9
            rcases hcmpH.out with hk0 | ⟨hk0, hcm⟩
            · have dk : decide ((0 : Int) < (k : Int)) = false := decide_eq_false (by omega)
              have dk2 : decide (0 < k) = false := decide_eq_false (by omega)
              clear hk0 hcmpH
              go_wp2
              go_roundw
              case rel => exact ⟨k + 1, by omega, by go_num, by rw [hnxH.out], hb13H⟩
              case measure => simp [intOf]; omega
            · have dk : decide ((0 : Int) < (k : Int)) = true := decide_eq_true (by omega)
              have dk2 : decide (0 < k) = true := decide_eq_true (by omega)
              have hsw := cmp_swap pk lk
              have db1 : Op.bytesLess pk.toList lk.toList = false := by rw [str_less]; exact decide_eq_false (by omega)
              have db2 : (pk.toList == lk.toList) = false := by rw [str_beq]; exact decide_eq_false (fun e => by rw [e] at hcm; have := (cmp_zero (a := lk) (b := lk)).2 rfl; omega)
              clear hcm hcmpH hsw
              go_wp2
              go_roundw
              case rel => exact ⟨k + 1, by omega, by go_num, by rw [hnxH.out], hb13H⟩
              case measure => simp [intOf]; omega
          · obtain rfl : k = L.length := by omega
            have hbr6 := Lib.hid (hb10H.out.trans (hbr.out.mono hb10H.out.size))
            have hSz2 := hSz.out _ hbr6.out
            rw [hZH.out] at hSz2
            have hSz2H := Lib.hid hSz2
            clear hSz2
            go_wp2_with fail
            refine hSz2H.out.mono ?_
            rintro e w13 ⟨rfl, hb13⟩
            have hb13H := Lib.hid (hbr6.out.trans (hb13.mono hbr6.out.size))
            clear hb13
            go_wp2_with fail
            refine (hAw.out _ hb13H.out).mono ?_
            rintro e w14 ⟨rfl, hb14⟩
            have hb14H := Lib.hid (hbw6.out.trans ((hb13H.out.trans (hb14.mono hb13H.out.size)).mono hbw6.out.size))
            clear hb14
            go_wp2
            go_ret
            exact ⟨rfl, hb14H.out⟩
      · have hC8 : C = 8 := hval.out.resolve_left hC0
        have dC : ((C : Int) != 0) = true := by rw [hC8]; rfl
        have hFe2 := hFe.out _ hb11H.out hC0
        rw [hC8] at hFe2
        have hFe2H := Lib.hid hFe2
        clear hC0 hC8 hFe2 hFe hok
        go_wp2_with fail
        refine hFe2H.out.mono ?_
        rintro e w12 ⟨rfl, hb12⟩
        have hb12H := Lib.hid (hb11H.out.trans (hb12.mono hb11H.out.size))
        clear hb12
        go_wp2_with fail
        refine (hAw.out _ hb12H.out).mono ?_
        rintro e w14 ⟨rfl, hb14⟩
        have hb14H := Lib.hid (hbw6.out.trans ((hb12H.out.trans (hb14.mono hb12H.out.size)).mono hbw6.out.size))
        clear hb14
        go_wp2
        go_ret
        exact ⟨rfl, hb14H.out⟩
end Go.Proofs.YtdcglpagdnhkgaaGreatDoor

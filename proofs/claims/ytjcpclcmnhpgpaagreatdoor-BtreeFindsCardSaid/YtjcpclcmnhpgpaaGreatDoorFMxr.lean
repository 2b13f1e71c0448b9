/-
  The seat's own texts, part xr: BtWL, Bf1, Bf2.
-/
import Derived.Test.YtjcpclcmnhpgpaaGreatDoorFMxq

set_option linter.unusedVariables false
set_option linter.unusedSimpArgs false
namespace Go.Proofs.YtjcpclcmnhpgpaaGreatDoor
open Go.RowKit Go.Shelf
inductive InsTop (w : World) (s t : Nat) (F : Nat → Prop) (R : Nat → Option (List Nat)) (H : List Nat) (P q most last G x ak av : Nat) : Ending → World → Prop
  | bad {w' : World} (h : blobE R ak ≠ 0 ∨ (x ≠ 0 ∧ bnE R t x ≠ 0)) (hb : Below w.heap.size w w') : InsTop w s t F R H P q most last G x ak av (.returned (.tuple #[.int .u64 0, .agg #[.int .u64 0, .int .u64 0], .bool false, .int .i64 8])) w'
  | here {w' : World} (h0 : blobE R ak = 0) (h1 : x = 0 ∨ bnE R t x = 0) (hf : (bdown R t (keyB R ak) 40 x 0).1.isSome = true) (hs : StoreIs w' s F (bswap R t (keyB R ak) ak av 40 x).1 H P q most last G) (hT : Turn w F w' F) :
      InsTop w s t F R H P q most last G x ak av (.returned (.tuple #[.int .u64 (x : Nat), itV (bswap R t (keyB R ak) ak av 40 x).2, .bool true, .int .i64 0])) w'
  | full {w' : World} {er : Nat} {F' : Nat → Prop} (h0 : blobE R ak = 0) (h1 : x = 0 ∨ bnE R t x = 0) (hf : (bdown R t (keyB R ak) 40 x 0).1.isSome = false)
      (he : (er = 3 ∧ q < (P + bneed R t (keyB R ak) x * pgsN (6 * t + 2)) * 64) ∨ (er = 10 ∧ (most < H.length + bneed R t (keyB R ak) x ∨ last < G + bneed R t (keyB R ak) x)))
      (hs : StoreIs w' s F' R H (P + bneed R t (keyB R ak) x * pgsN (6 * t + 2)) q most last (G + bneed R t (keyB R ak) x)) (hT : Turn w F w' F') :
      InsTop w s t F R H P q most last G x ak av (.returned (.tuple #[.int .u64 0, .agg #[.int .u64 0, .int .u64 0], .bool false, .int .i64 (er : Nat)])) w'
  | put {w' : World} {st : List Nat} {R1 : Nat → Option (List Nat)} {F' : Nat → Prop} (h0 : blobE R ak = 0) (h1 : x = 0 ∨ bnE R t x = 0) (hf : (bdown R t (keyB R ak) 40 x 0).1.isSome = false)
      (hl : st.length = bneed R t (keyB R ak) x) (hfr : Bt.Fresh R R1 t st) (h64 : ∀ z ∈ st, R1 z = some (BN.zero.wd t) ∧ z < 18446744073709551616)
      (hs : StoreIs w' s F' (binTop t (keyB R ak) ak av R1 st.reverse x).1 (st.reverse ++ H) (P + bneed R t (keyB R ak) x * pgsN (6 * t + 2)) q most last (G + bneed R t (keyB R ak) x)) (hT : Turn w F w' F')
      (hn : (binTop t (keyB R ak) ak av R1 st.reverse x).2.2 < 18446744073709551616) :
      InsTop w s t F R H P q most last G x ak av (.returned (.tuple #[.int .u64 ((binTop t (keyB R ak) ak av R1 st.reverse x).2.2 : Nat), .agg #[.int .u64 0, .int .u64 0], .bool false, .int .i64 0])) w'
theorem bpath_lenle (R : Nat → Option (List Nat)) (t : Nat) (key : ByteArray) : ∀ (f x : Nat), (bpath R t key f x).length ≤ f
  | 0, _ => Nat.le_refl _
  | f + 1, x => by
    unfold bpath
    split
    · simp
    · rw [List.length_cons]
      split
      · simp
      · have := bpath_lenle R t key f ((bnG R t x).kids.getD (plK R (bnG R t x).keys key) 0)
        omega
theorem bneed_le (R : Nat → Option (List Nat)) (t : Nat) (key : ByteArray) (x : Nat) : bneed R t key x ≤ 41 := by
  unfold bneed
  split
  · omega
  · have h1 := Bt.need_le (bpath R t key 40 x)
    have h2 := bpath_lenle R t key 40 x
    omega
theorem mk_ine {N t s bl b2 : Nat} {w8 : World} {F' : Nat → Prop} {R R1 : Nat → Option (List Nat)} {H' : List Nat} {P q most last G : Nat} {v : Value} {st : List Nat} (ht : BN.Deg t) (hsh : Short R) (hfr : Bt.Fresh R R1 t st) (h64 : ∀ x ∈ st, R1 x = some (BN.zero.wd t) ∧ x < 18446744073709551616)
    (hs : StoreIs w8 s F' R1 H' P q most last G) (hmk : Mk N w8 s t F' bl b2 v st) (hbl : N ≤ bl) (hne : bl ≠ b2) (hN : s < N ∧ 1 < N) (hl : st.length ≤ 100000) : InE N w8.heap.size w8 s t F' bl b2 v.ownBlock H' P q most last G R1 st where
  str := hs
  lo := hs.lo
  tk := ⟨v, rfl, hmk.tk hne⟩
  l1 := hmk.bx.lt
  l2 := hmk.b2x.lt
  l3 := fun k hk => rows_lt hmk.row k hk
  sh := fun y ws hy => by
    by_cases hm : y ∈ st
    · rw [(h64 y hm).1] at hy
      cases hy
      rw [BN.wd_len]
      have := ht.2
      omega
    · rw [hfr.old y hm] at hy
      exact hsh y ws hy
  w64 := fun x hx => (h64 x hx).2
  len := hl
  hN := hN
  hbN := hbl
theorem ins_end {w W : World} {s b9 : Nat} {F F' : Nat → Prop} {R' : Nat → Option (List Nat)} {H' : List Nat} {P q most last G : Nat} {vs : List Value} (hS : StoreIs W s F' R' H' P q most last G) (hT : Turn w F W F') (hb : w.heap.size ≤ b9) (x9 : Box W b9 33 vs) (hv : ∃ v, vs[0]? = some v ∧ ∀ p, v ≠ .pointer p) (hF9 : ¬ F' b9) (h1 : s < b9 ∧ 1 < b9) (c d : Value) :
    StoreIs ((W.setCell ⟨b9, 0, none⟩ c).setCell ⟨b9, 1, none⟩ d) s F' R' H' P q most last G ∧ Turn w F ((W.setCell ⟨b9, 0, none⟩ c).setCell ⟨b9, 1, none⟩ d) F' := by
  obtain ⟨v0, hv1, hv2⟩ := hv
  refine ⟨hS.grown (grown_trans (grown_set W b9 0 _) (grown_set _ b9 1 _)) (fun k hk => ?_), hT.minus ((Turn.set_fb W F' b9 0 _).trans (Turn.set_fb _ F' b9 1 _)) hb⟩
  obtain rfl : b9 = k := Option.some.inj hk
  refine ⟨h1.1, h1.2, hF9, fun p hc => ?_⟩
  rw [x9.at' (i := 0) hv1] at hc
  exact hv2 p (Option.some.inj hc)
theorem one_cells {W : World} {FF : Nat → Prop} {b x : Nat} (h : Box W b 31 [.int .u64 (x : Nat)]) (hF : ¬ FF b) : CellsF W FF (some ⟨b, 0, none⟩) (hsV [x]) :=
  .inr ⟨b, 0, rfl, h.lt, hF, fun j u hu => by
    rw [Nat.zero_add]
    exact h.at' hu⟩
theorem two_cells {W : World} {FF : Nat → Prop} {b x y : Nat} (h : Box W b 31 [.int .u64 (x : Nat), .int .u64 (y : Nat)]) (hF : ¬ FF b) : CellsF W FF (some ⟨b, 0, none⟩) (hsV [x, y]) :=
  .inr ⟨b, 0, rfl, h.lt, hF, fun j u hu => by
    rw [Nat.zero_add]
    exact h.at' hu⟩
theorem leaf_bnv {W : World} {FF : Nat → Prop} {g1 g2 a b : Nat} (h1 : Box W g1 31 [.int .u64 (a : Nat)]) (h2 : Box W g2 31 [.int .u64 (b : Nat)]) (f1 : ¬ FF g1) (f2 : ¬ FF g2) :
    BNV W FF (.agg #[.slice (some ⟨g1, 0, none⟩) 1 1, .slice (some ⟨g2, 0, none⟩) 1 1, .slice none 0 0, .int .u64 1]) ⟨[a], [b], [], 1⟩ :=
  ⟨⟨_, 1, _, 1, none, 0, rfl, one_cells h1 f1, one_cells h2 f2, .inl rfl⟩, by simp, by simp, by simp⟩
theorem top_bnv {W : World} {FF : Nat → Prop} {g1 g2 g3 a b x y z : Nat} (h1 : Box W g1 31 [.int .u64 (a : Nat)]) (h2 : Box W g2 31 [.int .u64 (b : Nat)]) (h3 : Box W g3 31 [.int .u64 (x : Nat), .int .u64 (y : Nat)]) (f1 : ¬ FF g1) (f2 : ¬ FF g2) (f3 : ¬ FF g3) :
    BNV W FF (.agg #[.slice (some ⟨g1, 0, none⟩) 1 1, .slice (some ⟨g2, 0, none⟩) 1 1, .slice (some ⟨g3, 0, none⟩) 2 2, .int .u64 (z : Nat)]) ⟨[a], [b], [x, y], z⟩ :=
  ⟨⟨_, 1, _, 1, _, 2, rfl, one_cells h1 f1, one_cells h2 f2, two_cells h3 f3⟩, by simp, by simp, by simp⟩
theorem top_wrap (R : Nat → Option (List Nat)) (t x r : Nat) (h1 : (bnG R t x).size < 18446744073709551616) (h2 : (bnG R t r).size < 18446744073709551616) :
    ∃ u : Nat, IntKind.u64.wrap (wrap64 (bszR R t x + bszR R t r)) = (u : Int) ∧ u < 18446744073709551616 ∧ IntKind.u64.wrap ((u : Int) + 1) = ((topSize R t x r : Nat) : Int) ∧ topSize R t x r < 18446744073709551616 := by
  refine ⟨toU (wrap64 (bszR R t x + bszR R t r)), wrapU _, toU_lt _, ?_, Nat.mod_lt _ (by decide)⟩
  rw [wrapU]
  unfold topSize bszR toU wrap64
  omega
end Go.Proofs.YtjcpclcmnhpgpaaGreatDoor

set_option linter.unusedVariables false
set_option linter.unusedSimpArgs false
namespace Go.Proofs.YtjcpclcmnhpgpaaGreatDoor
open Go.RowKit Go.Shelf
theorem pgs_node {t : Nat} (ht : BN.Deg t) : pgsN (6 * t + 2) ≤ 2 := by
  have := ht.2
  unfold pgsN
  split <;> omega
namespace Bt
section
variable {R R1 : Nat → Option (List Nat)} {t a lo : Nat}
theorem At.ns_le (ht : BN.Deg t) : ∀ {a lo : Nat} {s : Sb}, At R t a lo s → 1 ≤ lo → s.ns.length ≤ s.its.length
  | 0, lo, s, h, hlo => by
    have h1 := h.1
    have h2 := h.2.1
    rw [h1]
    simp
    omega
  | a + 1, lo, s, h, hlo => by
    obtain ⟨c, l, h1, h2, h3, h4, h5, h6⟩ := h
    have t1 := ht.1
    have hc := At.ns_le ht h5 (by omega)
    have hl : ∀ p ∈ l, p.2.ns.length ≤ p.2.its.length := fun p hp => At.ns_le ht (h6 p hp) (by omega)
    have hsum : ∀ l : List Lk, (∀ p ∈ l, p.2.ns.length ≤ p.2.its.length) → l.length + (l.flatMap fun p => p.2.ns).length ≤ (rest l).length := by
      intro l
      induction l with
      | nil => intro _; simp
      | cons p l ih =>
        intro h
        have h7 := ih fun q hq => h q (List.mem_cons_of_mem _ hq)
        have h8 := h p (by simp)
        rw [rest_cons, List.flatMap_cons]
        simp only [List.length_cons, List.length_append]
        omega
    have h7 := hsum l hl
    rw [h1, h2]
    unfold itsOf nsOf
    simp only [List.length_cons, List.length_append]
    omega
theorem Tree.ns_le (ht : BN.Deg t) {root : Nat} {its : List It} {ns : List Nat} {hg : Nat} (h : Tree R t root its ns hg) : ns.length ≤ its.length := by
  rcases h with ⟨_, rfl, rfl, _⟩ | ⟨a, _, h⟩
  · exact Nat.le_refl _
  · exact At.ns_le ht h (Nat.le_refl _)
theorem Tree.congr' {root : Nat} {its : List It} {ns : List Nat} {hg : Nat} (h : Tree R t root its ns hg) (e : ∀ z, R z ≠ none → R1 z = R z) : Tree R1 t root its ns hg := by
  rcases h with h | ⟨a, h1, h2⟩
  · exact .inl h
  · exact .inr ⟨a, h1, h2.congr' e⟩
theorem Own.congr' {its : List It} {ns : List Nat} (h : Own R its ns) (e : ∀ z, R z ≠ none → R1 z = R z) : Own R1 its ns := ⟨fun i hi => (h.at' i hi).congr' e, h.rise, h.nodup⟩
theorem Tree.zero {root : Nat} {its : List It} {ns : List Nat} {hg : Nat} (h : Tree R t root its ns hg) (hz : R 0 = none) : root = 0 ↔ its = [] := by
  rcases h with ⟨h1, h2, _, _⟩ | ⟨a, h1, h2⟩
  · exact ⟨fun _ => h2, fun _ => h1⟩
  · have h0 : root ≠ 0 := fun e => h2.ns_zero hz (by have := ns_pos h2; rw [← e]; exact this)
    refine ⟨fun e => absurd e h0, fun e => ?_⟩
    have h3 : 1 ≤ its.length := by
      cases a with
      | zero => exact h2.2.1
      | succ a =>
        obtain ⟨c, l, h3, h4, h5, h6⟩ := h2
        rw [show its = itsOf c l from h3]
        unfold itsOf
        cases l with
        | nil => simp at h5
        | cons p l => rw [rest_cons]; simp; omega
    rw [e] at h3
    simp at h3
theorem Tree.bnE0 (ht : BN.Deg t) {root : Nat} {its : List It} {ns : List Nat} {hg : Nat} (h : Tree R t root its ns hg) : root = 0 ∨ bnE R t root = 0 := by
  rcases h with h | ⟨a, _, h⟩
  · exact .inl h.1
  · exact .inr (by obtain ⟨n, h1, _⟩ := h.node; exact (h1.get ht).2)
theorem Tree.down (ht : BN.Deg t) {root : Nat} {its : List It} {ns : List Nat} {hg : Nat} (h : Tree R t root its ns hg) (hz : R 0 = none) (ho : Own R its ns) (hb : its.length < 549755813888) (key : ByteArray) :
    bdown R t key 40 root 0 = ((findI its key).map (fun i => (i.kh, i.vh)), ((rankL (prs its) key : Nat) : Int)) := by
  rcases h with ⟨rfl, rfl, _, _⟩ | ⟨a, _, h⟩
  · unfold bdown
    have he : bnE R t 0 ≠ 0 := by
      unfold bnE
      rw [hz]
      simp
    rw [if_pos he]
    rfl
  · have := bdown_right ht key a 1 40 ⟨root, its, ns⟩ 0 h ho.at' ho.rise (h.high ht hb) (by show 0 + its.length < _; omega)
    simpa using this
theorem findI_some {l : List It} {key : ByteArray} {i : It} (h : findI l key = some i) : i ∈ l ∧ i.k = key := by
  unfold findI at h
  exact ⟨List.mem_of_find?_eq_some h, by simpa using List.find?_some h⟩
end
end Bt
structure BtIn (w : World) (s : Nat) (F : Nat → Prop) (R : Nat → Option (List Nat)) (H : List Nat) (P q most last G t root : Nat) (its : List It) (ns : List Nat) (hg m : Nat) : Prop where
  st : StoreIs w s F R H P q most last G
  z : R 0 = none
  sh : Short R
  tr : Bt.Tree R t root its ns hg
  ow : Bt.Own R its ns
  len : H.length = 2 * its.length + ns.length + m
  rt : root < 18446744073709551616
section
variable {w w' : World} {s : Nat} {F F' : Nat → Prop} {R R' : Nat → Option (List Nat)} {H H' : List Nat} {P q most last G t root : Nat} {its : List It} {ns : List Nat} {hg m : Nat}
theorem BtIn.below (h : BtIn w s F R H P q most last G t root its ns hg m) (hb : Below w.heap.size w w') : BtIn w' s F R H P q most last G t root its ns hg m := { h with st := h.st.below hb }
theorem BtIn.more (h : BtIn w s F R H P q most last G t root its ns hg m) {P' G' : Nat} (hP : P ≤ P') (hG : G ≤ G') : BtIn w s F R H P' q most last G' t root its ns hg m := { h with st := h.st.more hP hG }
theorem BtIn.start (h : StoreIs w s F (fun _ => none) [] P q most last G) (t : Nat) : BtIn w s F (fun _ => none) [] P q most last G t 0 [] [] 0 0 :=
  ⟨h, rfl, (fun x ws e => by cases e), .inl ⟨rfl, rfl, rfl, rfl⟩, ⟨fun i hi => by simp at hi, List.Pairwise.nil, by simp⟩, rfl, by decide⟩
theorem BtIn.ne (h : BtIn w s F R H P q most last G t root its ns hg m) : ∀ z ∈ ns ++ its.flatMap It.hs, R z ≠ none := fun z hz => by
  rcases List.mem_append.1 hz with h1 | h1
  · rcases h.tr with ⟨_, _, h2, _⟩ | ⟨a, _, h2⟩
    · rw [h2] at h1; simp at h1
    · obtain ⟨ws, h3, _⟩ := h2.ns_rec z h1; rw [h3]; simp
  · obtain ⟨i, h2, h3⟩ := List.mem_flatMap.1 h1
    have h4 := h.ow.at' i h2
    simp only [It.hs, List.mem_cons, List.not_mem_nil, or_false] at h3
    rcases h3 with h3 | h3
    · rw [h3, h4.kt]; simp
    · rw [h3, h4.vt]; simp
theorem BtIn.grow (h : BtIn w s F R H P q most last G t root its ns hg m) {P' G' k : Nat} (hs : StoreIs w' s F' R' H' P' q most last G') (e : ∀ z, R z ≠ none → R' z = R z) (hz : R' 0 = none) (hsh : Short R') (hl : H'.length = H.length + k) : BtIn w' s F' R' H' P' q most last G' t root its ns hg (m + k) :=
  ⟨hs, hz, hsh, h.tr.congr' e, h.ow.congr' e, by rw [hl, h.len]; omega, h.rt⟩
inductive InsIn (w : World) (s : Nat) (F : Nat → Prop) (H : List Nat) (P q most last G t root : Nat) (its : List It) (ns : List Nat) (hg m : Nat) (it : It) : Ending → World → Prop
  | here {w' : World} {old : It} {R' : Nat → Option (List Nat)} (hf : Bt.findI its it.k = some old) (hb : BtIn w' s F R' H P q most last G t root (Bt.setI its it) ns hg m) (ho : old.At R') (hT : Turn w F w' F) :
      InsIn w s F H P q most last G t root its ns hg m it (.returned (.tuple #[.int .u64 (root : Nat), .agg #[.int .u64 (old.kh : Nat), .int .u64 (old.vh : Nat)], .bool true, .int .i64 0])) w'
  | put {w' : World} {now n : Nat} {R' : Nat → Option (List Nat)} {F' : Nat → Prop} {H' : List Nat} {ns' : List Nat} {hg' : Nat} (hf : Bt.findI its it.k = none) (hl : ns'.length = ns.length + n) (hn : n ≤ hg + 1)
      (hb : BtIn w' s F' R' H' (P + n * 2) q most last (G + n) t now (Bt.putI its it) ns' hg' (m - 2)) (hT : Turn w F w' F') :
      InsIn w s F H P q most last G t root its ns hg m it (.returned (.tuple #[.int .u64 (now : Nat), .agg #[.int .u64 0, .int .u64 0], .bool false, .int .i64 0])) w'
  | full {w' : World} {n er : Nat} {R' : Nat → Option (List Nat)} {F' : Nat → Prop} (hf : Bt.findI its it.k = none) (hn : n ≤ hg + 1) (he : (er = 3 ∧ q < (P + n * 2) * 64) ∨ (er = 10 ∧ (most < H.length + n ∨ last < G + n)))
      (hb : BtIn w' s F' R' H (P + n * 2) q most last (G + n) t root its ns hg m) (hi : it.At R') (hT : Turn w F w' F') :
      InsIn w s F H P q most last G t root its ns hg m it (.returned (.tuple #[.int .u64 0, .agg #[.int .u64 0, .int .u64 0], .bool false, .int .i64 (er : Nat)])) w'
theorem BtIn.insert (ht : BN.Deg t) (h : BtIn w s F R H P q most last G t root its ns hg m) (it : It) (hi : it.At R) (hm : 2 ≤ m) (hnd : ((ns ++ its.flatMap It.hs) ++ it.hs).Nodup) (hb : its.length < 549755813888) {e : Ending}
    (hI : InsTop w s t F R H P q most last G root it.kh it.vh e w') : InsIn w s F H P q most last G t root its ns hg m it e w' := by
  have hk : keyB R it.kh = it.k := Bt.keyB_at hi
  have he0 : blobE R it.kh = 0 := (blobR_text hi.kt hi.ks).2
  have hd := h.tr.down ht h.z h.ow hb it.k
  have hpg := pgs_node ht
  have hmul : ∀ n, n * pgsN (6 * t + 2) ≤ n * 2 := fun n => Nat.mul_le_mul_left n hpg
  have hcnt := List.nodup_iff_count.1 hnd
  cases hI with
  | bad hbad hb' =>
    exfalso
    rcases hbad with h1 | ⟨h1, h2⟩
    · exact h1 he0
    · rcases h.tr.bnE0 ht with h3 | h3
      · exact h1 h3
      · exact h2 h3
  | here h0 h1 hf hs hT =>
    rw [hk] at hf hs ⊢
    rw [hd] at hf
    obtain ⟨old, hold⟩ : ∃ old, Bt.findI its it.k = some old := by
      cases hfi : Bt.findI its it.k with
      | none => rw [hfi] at hf; simp at hf
      | some old => exact ⟨old, rfl⟩
    obtain ⟨hom, hok⟩ := Bt.findI_some hold
    rcases h.tr with ⟨_, h2, _⟩ | ⟨a, hhg, hA⟩
    · rw [h2] at hom; simp at hom
    · obtain ⟨R', e1, e2, e3⟩ := Bt.swap_right ht it old a 1 40 ⟨root, its, ns⟩ hA h.z (List.nodup_append.1 h.ow.nodup).1 h.ow.at' h.ow.rise hold (hA.high ht hb)
      dsimp only at e1 e2 e3
      rw [e1] at hs ⊢
      dsimp only at hs ⊢
      have hnn : ∀ i : It, i.At R → (∀ z ∈ i.hs, z ∉ ns) → i.At R' := fun i h1 h2 => h1.congr fun z hz => e3 z (h2 z hz)
      have hit : ∀ z ∈ it.hs, z ∉ ns := fun z hz hn => by
        have h7 := hcnt z
        have h8 := List.count_pos_iff.2 hz
        have h9 := List.count_pos_iff.2 hn
        simp only [List.count_append] at h7
        omega
      have hio : ∀ i ∈ its, ∀ z ∈ i.hs, z ∉ ns := fun i hi z hz hn => by
        have h7 := hcnt z
        have h8 := List.count_pos_iff.2 (List.mem_flatMap.2 ⟨i, hi, hz⟩)
        have h9 := List.count_pos_iff.2 hn
        simp only [List.count_append] at h7
        omega
      obtain ⟨u, v, huv⟩ := List.append_of_mem hom
      have hset : Bt.setI its it = u ++ it :: v := by
        rw [huv]
        exact Bt.setI_mid (by rw [← huv]; exact h.ow.rise) hok
      refine .here hold ⟨hs, ?_, ?_, .inr ⟨a, hhg, e2⟩, ⟨?_, ?_, ?_⟩, ?_, h.rt⟩ (hnn old (h.ow.at' old hom) (hio old hom)) hT
      · rw [e3 0 (hA.ns_zero h.z)]; exact h.z
      · intro z ws hz
        by_cases hzn : z ∈ ns
        · obtain ⟨ws', h4, h5⟩ := e2.ns_rec z hzn
          rw [h4] at hz
          cases hz
          have := ht.2
          omega
        · rw [e3 z hzn] at hz
          exact h.sh z ws hz
      · intro i hi9
        rw [hset] at hi9
        rcases List.mem_append.1 hi9 with h5 | h5
        · have : i ∈ its := by rw [huv]; simp [h5]
          exact hnn i (h.ow.at' i this) (hio i this)
        · rcases List.mem_cons.1 h5 with h6 | h6
          · rw [h6]; exact hnn it hi hit
          · have : i ∈ its := by rw [huv]; simp [h6]
            exact hnn i (h.ow.at' i this) (hio i this)
      · rw [Bt.setI_prs h.ow.rise hold]
        exact putL_rising h.ow.rise _
      · rw [List.nodup_iff_count]
        intro z
        have h7 := hcnt z
        rw [hset]
        rw [huv] at h7
        simp only [List.count_append, List.flatMap_append, List.flatMap_cons] at h7 ⊢
        omega
      · rw [Bt.setI_len]; exact h.len
  | full h0 h1 hf her hs hT =>
    rw [hk] at hf hs her
    rw [hd] at hf
    have hno : Bt.findI its it.k = none := by
      cases hfi : Bt.findI its it.k with
      | none => rfl
      | some old => rw [hfi] at hf; simp at hf
    have hn := h.tr.need ht h.z h.ow hb it.k
    have h2 := hmul (bneed R t it.k root)
    refine .full (n := bneed R t it.k root) hno hn ?_ ⟨hs.more (by omega) (Nat.le_refl _), h.z, h.sh, h.tr, h.ow, h.len, h.rt⟩ hi hT
    rcases her with ⟨h3, h4⟩ | h3
    · exact .inl ⟨h3, by omega⟩
    · exact .inr h3
  | @put _ st R1 F' h0 h1 hf hl hfr h64 hs hT hn =>
    rw [hk] at hf hl hs hn ⊢
    rw [hd] at hf
    have hno : Bt.findI its it.k = none := by
      cases hfi : Bt.findI its it.k with
      | none => rfl
      | some old => rw [hfi] at hf; simp at hf
    have hneed := h.tr.need ht h.z h.ow hb it.k
    have hfr' : Bt.Fresh R R1 t st.reverse := ⟨fun x hx => hfr.new x (List.mem_reverse.1 hx), List.nodup_iff_count.2 (fun z => by rw [List.count_reverse]; exact List.nodup_iff_count.1 hfr.nodup z), fun z hz => hfr.old z fun h => hz (List.mem_reverse.2 h)⟩
    obtain ⟨R', now, ns', hg', e1, e2, e3, e4⟩ := Bt.top_right ht it h.tr h.z h.ow hno hb hfr' (by rw [List.length_reverse]; exact hl)
    rw [e1] at hs hn ⊢
    dsimp only at hs hn ⊢
    have hcst : ∀ z, List.count z st.reverse = List.count z st := fun z => List.count_reverse
    have hsn : ∀ z ∈ st, R z = none := fun z hz => (hfr.new z hz).1
    have hne := h.ne
    have hkn : R it.kh ≠ none := by rw [hi.kt]; simp
    have hvn : R it.vh ≠ none := by rw [hi.vt]; simp
    have hitn : ∀ z ∈ it.hs, R z ≠ none := fun z hz => by
      simp only [It.hs, List.mem_cons, List.not_mem_nil, or_false] at hz
      rcases hz with rfl | rfl <;> assumption
    have hst1 : ∀ z, List.count z st ≤ 1 := List.nodup_iff_count.1 hfr.nodup
    have hstz : ∀ z, 0 < List.count z st → List.count z (ns ++ its.flatMap It.hs) = 0 ∧ List.count z it.hs = 0 := fun z hz => by
      have h7 := hsn z (List.count_pos_iff.1 hz)
      exact ⟨List.count_eq_zero.2 fun h8 => hne z h8 h7, List.count_eq_zero.2 fun h8 => hitn z h8 h7⟩
    have hcpy : ∀ i : It, i.At R → (∀ z ∈ i.hs, z ∉ ns) → i.At R' := fun i h1 h2 => h1.congr fun z hz => by
      refine e4 z (h2 z hz) fun h3 => ?_
      have h7 := hsn z (List.mem_reverse.1 h3)
      simp only [It.hs, List.mem_cons, List.not_mem_nil, or_false] at hz
      rcases hz with rfl | rfl
      · rw [h1.kt] at h7; cases h7
      · rw [h1.vt] at h7; cases h7
    have hit : ∀ z ∈ it.hs, z ∉ ns := fun z hz hn => by
      have h7 := hcnt z
      have h8 := List.count_pos_iff.2 hz
      have h9 := List.count_pos_iff.2 hn
      simp only [List.count_append] at h7
      omega
    have hio : ∀ i ∈ its, ∀ z ∈ i.hs, z ∉ ns := fun i hi z hz hn => by
      have h7 := hcnt z
      have h8 := List.count_pos_iff.2 (List.mem_flatMap.2 ⟨i, hi, hz⟩)
      have h9 := List.count_pos_iff.2 hn
      simp only [List.count_append] at h7
      omega
    have hlen' : ns'.length = ns.length + st.length := by
      have hp : ns'.Perm (ns ++ st) := List.perm_iff_count.2 fun z => by rw [e3 z, List.count_append, hcst]
      rw [hp.length_eq, List.length_append]
    have hmem : ∀ z, z ∈ ns' ↔ z ∈ ns ∨ z ∈ st := fun z => by
      rw [← List.count_pos_iff, ← List.count_pos_iff, ← List.count_pos_iff, e3 z, hcst]
      omega
    have h00 : (0 : Nat) ∉ ns := fun h8 => h.ne 0 (List.mem_append.2 (.inl h8)) h.z
    have h01 : (0 : Nat) ∉ st.reverse := fun h8 => (hfr'.new 0 h8).2.1 rfl
    have hrec : ∀ z ∈ ns', ∃ ws, R' z = some ws ∧ ws.length = 6 * t := fun z hz => by
      rcases e2 with ⟨_, _, h8, _⟩ | ⟨a, _, h8⟩
      · rw [h8] at hz; simp at hz
      · exact h8.ns_rec z hz
    have hput : Bt.putI its it = its.take (rankL (Bt.prs its) it.k) ++ it :: its.drop (rankL (Bt.prs its) it.k) := rfl
    have hmm : st.length * pgsN (6 * t + 2) ≤ st.length * 2 := hmul _
    rw [← hl] at hs hneed
    refine .put (n := st.length) hno hlen' hneed ⟨hs.more (by omega) (Nat.le_refl _), ?_, ?_, e2, ⟨?_, ?_, ?_⟩, ?_, hn⟩ hT
    · rw [e4 0 h00 h01]; exact h.z
    · intro z ws hz
      by_cases hzn : z ∈ ns'
      · obtain ⟨ws', h4, h5⟩ := hrec z hzn
        rw [h4] at hz
        cases hz
        have := ht.2
        omega
      · rw [e4 z (fun h8 => hzn ((hmem z).2 (.inl h8))) (fun h8 => hzn ((hmem z).2 (.inr (List.mem_reverse.1 h8))))] at hz
        exact h.sh z ws hz
    · intro i hi9
      rw [hput] at hi9
      rcases List.mem_append.1 hi9 with h5 | h5
      · have := List.mem_of_mem_take h5
        exact hcpy i (h.ow.at' i this) (hio i this)
      · rcases List.mem_cons.1 h5 with h6 | h6
        · rw [h6]; exact hcpy it hi hit
        · have := List.mem_of_mem_drop h6
          exact hcpy i (h.ow.at' i this) (hio i this)
    · rw [Bt.putI_prs h.ow.rise hno]
      exact putL_rising h.ow.rise _
    · rw [List.nodup_iff_count]
      intro z
      have h7 := hcnt z
      have h8 := hst1 z
      have h9 := hstz z
      have h10 : List.count z (its.flatMap It.hs) = List.count z ((its.take (rankL (Bt.prs its) it.k)).flatMap It.hs) + List.count z ((its.drop (rankL (Bt.prs its) it.k)).flatMap It.hs) := by
        conv => lhs; rw [← List.take_append_drop (rankL (Bt.prs its) it.k) its]
        rw [List.flatMap_append, List.count_append]
      rw [hput]
      simp only [List.count_append, List.flatMap_append, List.flatMap_cons] at h7 h9 ⊢
      rw [e3 z, hcst]
      by_cases hz : 0 < List.count z st
      · obtain ⟨h11, h12⟩ := h9 hz
        omega
      · omega
    · rw [List.length_append, List.length_reverse, Bt.putI_len, hlen', h.len]
      omega
end
end Go.Proofs.YtjcpclcmnhpgpaaGreatDoor

set_option linter.unusedVariables false
set_option linter.unusedSimpArgs false
namespace Go.Proofs.YtjcpclcmnhpgpaaGreatDoor
open Go.RowKit Go.Shelf
theorem updR_back {R : Nat → Option (List Nat)} {x : Nat} {o : Option (List Nat)} (h : R x = none) : updR (updR R x o) x none = R := by
  funext y
  by_cases hy : y = x
  · subst hy; rw [updR_same, h]
  · rw [updR_other hy, updR_other hy]
section
variable {w w' : World} {s : Nat} {F F' : Nat → Prop} {R R' : Nat → Option (List Nat)} {H H' : List Nat} {P q most last G t root : Nat} {its : List It} {ns : List Nat} {hg m : Nat}
inductive ItemIn (w : World) (s : Nat) (F : Nat → Prop) (R : Nat → Option (List Nat)) (H : List Nat) (P q most last G t root : Nat) (its : List It) (ns : List Nat) (hg m : Nat) (p : Pr) : Ending → World → Prop
  | ok {w' : World} {it : It} {R' : Nat → Option (List Nat)} {F' : Nat → Prop} {H' : List Nat} (hk : it.k = p.1) (hv : it.v = p.2) (hb : BtIn w' s F' R' H' (P + 6) q most last (G + 2) t root its ns hg (m + 2)) (hi : it.At R')
      (hnd : ((ns ++ its.flatMap It.hs) ++ it.hs).Nodup) (hT : Turn w F w' F') (h64 : it.kh < 18446744073709551616 ∧ it.vh < 18446744073709551616) (hl : H'.length = H.length + 2) (hold : ∀ z, R z ≠ none → R' z = R z) :
      ItemIn w s F R H P q most last G t root its ns hg m p (.returned (.tuple #[.agg #[.int .u64 (it.kh : Nat), .int .u64 (it.vh : Nat)], .bool true])) w'
  | no {w' : World} {a b : Nat} {F' : Nat → Prop} {H' : List Nat} (hb : BtIn w' s F' R H' (P + 6) q most last (G + 2) t root its ns hg m) (hT : Turn w F w' F') (hl : H'.length = H.length)
      (hbad : q < (P + 6) * 64 ∨ most < H.length + 2 ∨ last < G + 2) :
      ItemIn w s F R H P q most last G t root its ns hg m p (.returned (.tuple #[.agg #[.int .u64 (a : Nat), .int .u64 (b : Nat)], .bool false])) w'
set_option maxHeartbeats 4000000 in
set_option maxRecDepth 100000 in
theorem item16_at (h : BtIn w s F R H P q most last G t root its ns hg m) (p : Pr) (h1 : p.1.size ≤ 1000) (h2 : p.2.size ≤ 1000) :
    Calls Tryz.prog 11 #[.pointer (some ⟨s, 0, none⟩), .agg #[.string p.1, .string p.2]] w (ItemIn w s F R H P q most last G t root its ns hg m p) := by
  have hsN := h.st.s_lt
  have htN : 1 < w.heap.size := by
    obtain ⟨N0, hrd, -⟩ := h.st.rd
    obtain ⟨_, _, _, _, _, _, _, _, _, _, _, _, _, _, _, _, _, _, _, h4⟩ := hrd
    exact h4.2
  obtain ⟨W0, hW0⟩ : ∃ W, W = (w.alloc (Obj.cells #[Value.string p.1, Value.string p.2] 37)).alloc (Obj.cells #[.int .u64 0, .int .u64 0] 33) := ⟨_, rfl⟩
  obtain ⟨b3, hb3⟩ : ∃ b, b = w.heap.size := ⟨_, rfl⟩
  obtain ⟨b4, hb4⟩ : ∃ b, b = w.heap.size + 1 := ⟨_, rfl⟩
  have hb0 : Below w.heap.size w W0 := by rw [hW0]; exact ((Below.refl _ w).alloc (Nat.le_refl _) _).alloc (by simp) _
  have x3 : Box W0 b3 37 [Value.string p.1, Value.string p.2] := by rw [hW0, hb3]; exact (Box.new w 37 [Value.string p.1, Value.string p.2]).alloc _
  have x4 : Box W0 b4 33 [.int .u64 0, .int .u64 0] := by
    rw [hW0, hb4]
    have := Box.new (w.alloc (Obj.cells #[Value.string p.1, Value.string p.2] 37)) 33 [.int .u64 0, .int .u64 0]
    rwa [show (w.alloc (Obj.cells #[Value.string p.1, Value.string p.2] 37)).heap.size = w.heap.size + 1 by simp] at this
  have hF : ∀ z, w.heap.size ≤ z → ¬ F z := fun z h3 hf => by have := h.st.lt hf; omega
  have hw1 := words_le h1
  have hw2 := words_le h2
  have hg1 := pgsN_le (n := (Tx.wordsL p.1.data.toList).length + 2) (by omega)
  have hg2 := pgsN_le (n := (Tx.wordsL p.2.data.toList).length + 2) (by omega)
  have hPut1 := Lib.hid (bput_at (h.st.below hb0) p.1 h1)
  have hH := Lib.hid h
  have hsz := Lib.hid (And.intro h1 h2)
  have hpg := Lib.hid (And.intro hg1 (And.intro hg2 (And.intro hw1 hw2)))
  have hlow := Lib.hid (show w.heap.size ≤ b3 ∧ w.heap.size ≤ b4 ∧ s < b4 ∧ 1 < b4 from ⟨by omega, by omega, by omega, by omega⟩)
  have x3H := Lib.hid x3
  have x4H := Lib.hid x4
  have hb0H := Lib.hid hb0
  have hFH := Lib.hid hF
  have hWH := Lib.hid (And.intro hW0 (And.intro hb3 hb4))
  have c3 : W0.cell? ⟨b3, 0, none⟩ = some (.string p.1) := x3.at' (i := 0) rfl
  rw [hW0, hb3] at c3
  clear h h1 h2 hg1 hg2 hw1 hw2 hW0 hb3 hb4 hb0 x3 x4 hF hsN htN
  go_enter Tryz.func11, Tryz.ntmps11
  go_wp2_with fail
  rw [← hWH.out.1, ← hWH.out.2.2, ← hWH.out.2.1]
  refine hPut1.out.mono ?_
  clear c3
  rintro e w1 (⟨x1, F1, n1, x10, x164, rfl, hS1, hT1⟩ | ⟨er, F1, rfl, her, hS1, hT1⟩)
  · have hPut2 := Lib.hid (bput_at hS1 p.2 hsz.out.2)
    have y3 := Lib.hid (x3H.out.turn hT1 (hFH.out _ hlow.out.1))
    have y4 := Lib.hid (x4H.out.turn hT1 (hFH.out _ hlow.out.2.1))
    have hF4 := Lib.hid (hT1.not x4H.out.lt (hFH.out _ hlow.out.2.1))
    have c1 := y3.out.at' (i := 1) rfl
    have n1H := Lib.hid (And.intro n1 x10)
    have hT1H := Lib.hid ((Turn.below (F := F) hb0H.out).trans hT1)
    have hS1H := Lib.hid hS1
    have hx1 := Lib.hid x164
    clear hS1 hT1 n1 hPut1 x10 x164
    go_wp2_with fail
    refine hPut2.out.mono ?_
    rintro e w2 (⟨x2, F2, n2, x20, x264, rfl, hS2, hT2⟩ | ⟨er, F2, rfl, her, hS2, hT2⟩)
    · have hF5 := hT2.not y4.out.lt hF4.out
      have z4 := y4.out.turn hT2 hF4.out
      have hend := Lib.hid (ins_end hS2 (hT1H.out.trans hT2) hlow.out.2.1 z4 ⟨_, rfl, fun p h9 => by cases h9⟩ hF5 hlow.out.2.2 (.int .u64 (x1 : Nat)) (.int .u64 (x2 : Nat)))
      have d0 := z4.at' (i := 0) rfl
      have d1 := z4.at' (i := 1) rfl
      have f0 := z4.free 0
      have f1 := z4.free 1
      have hq := Lib.hid ((z4.set 0 (.int .u64 (x1 : Nat))).set 1 (.int .u64 (x2 : Nat)))
      have n2H := Lib.hid (And.intro n2 (And.intro x20 x264))
      clear hS2 hT2 hPut2 c1 hF5 z4 n2 x20 x264
      go_wp2
      have r0 := hq.out.at' (i := 0) rfl
      have r1 := hq.out.at' (i := 1) rfl
      refine bodyPost_ret (v := .tuple #[.agg #[.int .u64 (x1 : Nat), .int .u64 (x2 : Nat)], .bool true]) (by simp [results, Tryz.f11, go_sem, r0, r1]) rfl ?_
      obtain ⟨n1, x10⟩ := n1H.out
      obtain ⟨n2, x20, x264⟩ := n2H.out
      have hne : x1 ≠ x2 := fun e => by rw [← e, updR_same] at n2; cases n2
      have n2' : R x2 = none := by rwa [updR_other (Ne.symm hne)] at n2
      have hold : ∀ z, R z ≠ none → updR (updR R x1 (some (Tx.wordsL p.1.data.toList))) x2 (some (Tx.wordsL p.2.data.toList)) z = R z := fun z hz => by
        rw [updR_other (fun e => hz (by rw [e]; exact n2')), updR_other (fun e => hz (by rw [e]; exact n1))]
      have hb := hH.out.grow (hend.out.1.more (show P + pgsN ((Tx.wordsL p.1.data.toList).length + 2) + pgsN ((Tx.wordsL p.2.data.toList).length + 2) ≤ P + 6 by have := hpg.out; omega) (show G + 1 + 1 ≤ G + 2 by omega)) (k := 2) hold (by rw [updR_other (Ne.symm x20), updR_other (Ne.symm x10)]; exact hH.out.z)
        (fun z ws hz => by
          by_cases hz2 : z = x2
          · subst hz2; rw [updR_same] at hz; cases hz; have := hpg.out.2.2.2; omega
          · rw [updR_other hz2] at hz
            by_cases hz1 : z = x1
            · subst hz1; rw [updR_same] at hz; cases hz; have := hpg.out.2.2.1; omega
            · rw [updR_other hz1] at hz; exact hH.out.sh z ws hz) (by simp)
      refine .ok (it := ⟨x1, x2, p.1, p.2⟩) rfl rfl hb ⟨?_, updR_same _ _ _, hsz.out.1, hsz.out.2⟩ ?_ hend.out.2 ⟨hx1.out, x264⟩ (by simp) hold
      · show updR (updR R x1 _) x2 _ x1 = _
        rw [updR_other hne, updR_same]
      · have hne2 := hH.out.ne
        have hnd := hH.out.ow.nodup
        rw [List.nodup_append]
        refine ⟨hnd, by simp [It.hs, hne], fun a ha b hb e => ?_⟩
        simp only [It.hs, List.mem_cons, List.not_mem_nil, or_false] at hb
        rcases hb with rfl | rfl
        · exact hne2 a ha (by rw [e]; exact n1)
        · exact hne2 a ha (by rw [e]; exact n2')
    · --< okfail
      as_aux_lemma =>
      have her0 : er ≠ 0 := by rcases her with h9 | h9 <;> omega
      have herH := Lib.hid her
      have hee : ((er : Int) == 0) = false := by simp; omega
      have hee2 : ((er : Int) != 0) = true := by simp; omega
      have hsh1 : Short (updR R x1 (some (Tx.wordsL p.1.data.toList))) := fun z ws hz => by
        by_cases hz1 : z = x1
        · subst hz1; rw [updR_same] at hz; cases hz; have := hpg.out.2.2.1; omega
        · rw [updR_other hz1] at hz; exact hH.out.sh z ws hz
      have hDr := Lib.hid (bdrop_at hS2 hsh1 (updR_same _ _ _) (Tx.text_words p.1 hsz.out.1).1)
      have hF5 := Lib.hid (hT2.not y4.out.lt hF4.out)
      have z4 := Lib.hid (y4.out.turn hT2 hF4.out)
      have hT2H := Lib.hid (hT1H.out.trans hT2)
      clear hS2 hT2 hPut2 c1 her her0 hsh1
      go_wp2_with fail
      refine hDr.out.mono ?_
      rintro e w3 ⟨F3, rfl, hS3, hT3⟩
      have hF6 := hT3.not z4.out.lt hF5.out
      have u4 := z4.out.turn hT3 hF5.out
      rw [updR_back n1H.out.1, List.erase_cons_head] at hS3
      have hend := Lib.hid (ins_end hS3 (hT2H.out.trans hT3) hlow.out.2.1 u4 ⟨_, rfl, fun p h9 => by cases h9⟩ hF6 hlow.out.2.2 (.int .u64 (x1 : Nat)) (.int .u64 0))
      have d0 := u4.at' (i := 0) rfl
      have d1 := u4.at' (i := 1) rfl
      have f0 := u4.free 0
      have f1 := u4.free 1
      have hq := Lib.hid ((u4.set 0 (.int .u64 (x1 : Nat))).set 1 (.int .u64 0))
      clear hS3 hT3 hF6 u4 hDr
      go_wp2
      have r0 := hq.out.at' (i := 0) rfl
      have r1 := hq.out.at' (i := 1) rfl
      refine bodyPost_ret (v := .tuple #[.agg #[.int .u64 (x1 : Nat), .int .u64 0], .bool false]) (by simp [results, Tryz.f11, go_sem, r0, r1]) rfl ?_
      have hpp := hpg.out
      have hb := hH.out.grow (hend.out.1.more (show P + pgsN ((Tx.wordsL p.1.data.toList).length + 2) + pgsN ((Tx.wordsL p.2.data.toList).length + 2) ≤ P + 6 by omega) (show G + 1 ≤ G + 2 by omega)) (k := 0) (fun _ _ => rfl) hH.out.z hH.out.sh rfl
      refine .no (b := 0) hb hend.out.2 rfl ?_
      rcases herH.out with ⟨_, h9⟩ | ⟨_, h9 | h9⟩
      · exact .inl (by omega)
      · exact .inr (.inl (by simp at h9; omega))
      · exact .inr (.inr (by omega))
      --> okfail
  · --< fail
    as_aux_lemma =>
    have her0 : er ≠ 0 := by rcases her with h9 | h9 <;> omega
    have hPut2 := Lib.hid (bput_at hS1 p.2 hsz.out.2)
    have y3 := Lib.hid (x3H.out.turn hT1 (hFH.out _ hlow.out.1))
    have y4 := Lib.hid (x4H.out.turn hT1 (hFH.out _ hlow.out.2.1))
    have hF4 := Lib.hid (hT1.not x4H.out.lt (hFH.out _ hlow.out.2.1))
    have c1 := y3.out.at' (i := 1) rfl
    have hT1H := Lib.hid ((Turn.below (F := F) hb0H.out).trans hT1)
    have herH := Lib.hid her
    have hee : ((er : Int) == 0) = false := by simp; omega
    have hee2 : ((er : Int) != 0) = true := by simp; omega
    have hbadH : Hid (q < (P + 6) * 64 ∨ most < H.length + 2 ∨ last < G + 2) := Lib.hid (by
      have hpp := hpg.out
      rcases herH.out with ⟨_, h9⟩ | ⟨_, h9 | h9⟩
      · exact .inl (by omega)
      · exact .inr (.inl (by omega))
      · exact .inr (.inr (by omega)))
    clear hS1 hT1 hPut1 her her0
    go_wp2_with fail
    refine hPut2.out.mono ?_
    rintro e w2 (⟨x2, F2, n2, x20, x264, rfl, hS2, hT2⟩ | ⟨er2, F2, rfl, her2, hS2, hT2⟩)
    · have hsh1 : Short (updR R x2 (some (Tx.wordsL p.2.data.toList))) := fun z ws hz => by
        by_cases hz1 : z = x2
        · subst hz1; rw [updR_same] at hz; cases hz; have := hpg.out.2.2.2; omega
        · rw [updR_other hz1] at hz; exact hH.out.sh z ws hz
      have hDr := Lib.hid (bdrop_at hS2 hsh1 (updR_same _ _ _) (Tx.text_words p.2 hsz.out.2).1)
      have hF5 := Lib.hid (hT2.not y4.out.lt hF4.out)
      have z4 := Lib.hid (y4.out.turn hT2 hF4.out)
      have hT2H := Lib.hid (hT1H.out.trans hT2)
      have n2H := Lib.hid n2
      clear hS2 hT2 hPut2 c1 hsh1 n2 x20 x264
      go_wp2_with fail
      refine hDr.out.mono ?_
      rintro e w3 ⟨F3, rfl, hS3, hT3⟩
      have hF6 := hT3.not z4.out.lt hF5.out
      have u4 := z4.out.turn hT3 hF5.out
      rw [updR_back n2H.out, List.erase_cons_head] at hS3
      have hend := Lib.hid (ins_end hS3 (hT2H.out.trans hT3) hlow.out.2.1 u4 ⟨_, rfl, fun p h9 => by cases h9⟩ hF6 hlow.out.2.2 (.int .u64 0) (.int .u64 (x2 : Nat)))
      have d0 := u4.at' (i := 0) rfl
      have d1 := u4.at' (i := 1) rfl
      have f0 := u4.free 0
      have f1 := u4.free 1
      have hq := Lib.hid ((u4.set 0 (.int .u64 0)).set 1 (.int .u64 (x2 : Nat)))
      clear hS3 hT3 hF6 u4 hDr
      go_wp2
      have r0 := hq.out.at' (i := 0) rfl
      have r1 := hq.out.at' (i := 1) rfl
      refine bodyPost_ret (v := .tuple #[.agg #[.int .u64 0, .int .u64 (x2 : Nat)], .bool false]) (by simp [results, Tryz.f11, go_sem, r0, r1]) rfl ?_
      have hpp := hpg.out
      have hb := hH.out.grow (hend.out.1.more (show P + pgsN ((Tx.wordsL p.1.data.toList).length + 2) + pgsN ((Tx.wordsL p.2.data.toList).length + 2) ≤ P + 6 by omega) (show G + 1 ≤ G + 2 by omega)) (k := 0) (fun _ _ => rfl) hH.out.z hH.out.sh rfl
      exact .no (a := 0) hb hend.out.2 rfl hbadH.out
    · have her3 : er2 ≠ 0 := by rcases her2 with h9 | h9 <;> omega
      have hee3 : ((er2 : Int) == 0) = false := by simp; omega
      have hee4 : ((er2 : Int) != 0) = true := by simp; omega
      have hF5 := hT2.not y4.out.lt hF4.out
      have z4 := y4.out.turn hT2 hF4.out
      have hend := Lib.hid (ins_end hS2 (hT1H.out.trans hT2) hlow.out.2.1 z4 ⟨_, rfl, fun p h9 => by cases h9⟩ hF5 hlow.out.2.2 (.int .u64 0) (.int .u64 0))
      have d0 := z4.at' (i := 0) rfl
      have d1 := z4.at' (i := 1) rfl
      have f0 := z4.free 0
      have f1 := z4.free 1
      have hq := Lib.hid ((z4.set 0 (.int .u64 0)).set 1 (.int .u64 0))
      clear hS2 hT2 hPut2 c1 hF5 z4 her2 her3
      go_wp2
      have r0 := hq.out.at' (i := 0) rfl
      have r1 := hq.out.at' (i := 1) rfl
      refine bodyPost_ret (v := .tuple #[.agg #[.int .u64 0, .int .u64 0], .bool false]) (by simp [results, Tryz.f11, go_sem, r0, r1]) rfl ?_
      have hpp := hpg.out
      have hb := hH.out.grow (hend.out.1.more (show P + pgsN ((Tx.wordsL p.1.data.toList).length + 2) + pgsN ((Tx.wordsL p.2.data.toList).length + 2) ≤ P + 6 by omega) (show G ≤ G + 2 by omega)) (k := 0) (fun _ _ => rfl) hH.out.z hH.out.sh rfl
      exact .no (a := 0) (b := 0) hb hend.out.2 rfl hbadH.out
    --> fail
set_option maxHeartbeats 4000000 in
set_option maxRecDepth 100000 in
theorem pair16_at {N n : Nat} (h : Rd N w s R n) (hsh : Short R) {i : It} (hi : i.At R) :
    Calls Tryz.prog 18 #[.pointer (some ⟨s, 0, none⟩), .agg #[.int .u64 (i.kh : Nat), .int .u64 (i.vh : Nat)]] w fun e w' => e = .returned (.tuple #[.agg #[.string i.k, .string i.v], .bool true]) ∧ Below w.heap.size w w' := by
  obtain ⟨W0, hW0⟩ : ∃ W, W = (w.alloc (Obj.cells #[.int .u64 (i.kh : Nat), .int .u64 (i.vh : Nat)] 33)).alloc (Obj.cells #[Value.string ⟨#[]⟩, Value.string ⟨#[]⟩] 37) := ⟨_, rfl⟩
  obtain ⟨b3, hb3⟩ : ∃ b, b = w.heap.size := ⟨_, rfl⟩
  obtain ⟨b4, hb4⟩ : ∃ b, b = w.heap.size + 1 := ⟨_, rfl⟩
  have hb0 : Below w.heap.size w W0 := by rw [hW0]; exact ((Below.refl _ w).alloc (Nat.le_refl _) _).alloc (by simp) _
  have x3 : Box W0 b3 33 [.int .u64 (i.kh : Nat), .int .u64 (i.vh : Nat)] := by rw [hW0, hb3]; exact (Box.new w 33 [.int .u64 (i.kh : Nat), .int .u64 (i.vh : Nat)]).alloc _
  have x4 : Box W0 b4 37 [Value.string ⟨#[]⟩, Value.string ⟨#[]⟩] := by
    rw [hW0, hb4]
    have := Box.new (w.alloc (Obj.cells #[.int .u64 (i.kh : Nat), .int .u64 (i.vh : Nat)] 33)) 37 [Value.string ⟨#[]⟩, Value.string ⟨#[]⟩]
    rwa [show (w.alloc (Obj.cells #[.int .u64 (i.kh : Nat), .int .u64 (i.vh : Nat)] 33)).heap.size = w.heap.size + 1 by simp] at this
  obtain ⟨e1, e2⟩ := blobR_text hi.kt hi.ks
  obtain ⟨e3, e4⟩ := blobR_text hi.vt hi.vs
  have hG1 := bget_at (h.below hb0) hsh i.kh (h.u64 hi.kt).1
  have hG2 := Lib.hid fun W (hb : Below w.heap.size w W) => bget_at (h.below hb) hsh i.vh (h.u64 hi.vt).1
  have v1 : blobV R i.kh = .tuple #[.string i.k, .int .i64 0] := by unfold blobV; rw [e1, e2]; rfl
  have v2 : blobV R i.vh = .tuple #[.string i.v, .int .i64 0] := by unfold blobV; rw [e3, e4]; rfl
  rw [v1] at hG1
  rw [v2] at hG2
  obtain ⟨kh, hkh⟩ : ∃ z, z = i.kh := ⟨_, rfl⟩
  obtain ⟨vh, hvh⟩ : ∃ z, z = i.vh := ⟨_, rfl⟩
  rw [← hkh] at hG1
  rw [← hvh] at hG2
  obtain ⟨k, hk⟩ : ∃ z, z = i.k := ⟨_, rfl⟩
  obtain ⟨v, hv⟩ : ∃ z, z = i.v := ⟨_, rfl⟩
  rw [← hk] at hG1 ⊢
  rw [← hv] at hG2 ⊢
  rw [← hkh, ← hvh] at x3 hW0
  rw [← hkh, ← hvh]
  have hG1H := Lib.hid hG1
  have x3H := Lib.hid x3
  have x4H := Lib.hid x4
  have hb0H := Lib.hid hb0
  have hlow : w.heap.size ≤ b4 := by omega
  have hWH := Lib.hid (And.intro hW0 (And.intro hb3 hb4))
  have c3 : W0.cell? ⟨b3, 0, none⟩ = some (.int .u64 (kh : Nat)) := x3.at' (i := 0) rfl
  rw [hW0, hb3] at c3
  clear h hG1 e1 e2 e3 e4 v1 v2 hkh hvh hk hv x3 x4 hb0 hW0 hb3 hb4 hi
  go_enter Tryz.func18, Tryz.ntmps18
  go_wp2_with fail
  rw [← hWH.out.1, ← hWH.out.2.2, ← hWH.out.2.1]
  refine hG1H.out.mono ?_
  clear c3
  rintro e w1 ⟨rfl, hb1⟩
  have y3 := Lib.hid (x3H.out.below hb1)
  have y4 := Lib.hid (x4H.out.below hb1)
  have hbw1 := Lib.hid (hb0H.out.trans (hb1.mono hb0H.out.size))
  have c1 := y3.out.at' (i := 1) rfl
  clear hb1 hG1H
  go_wp2_with fail
  refine (hG2.out _ hbw1.out).mono ?_
  rintro e w2 ⟨rfl, hb2⟩
  have z4 := y4.out.below hb2
  have hbw2 := hbw1.out.trans (hb2.mono hbw1.out.size)
  have d0 := z4.at' (i := 0) rfl
  have d1 := z4.at' (i := 1) rfl
  have f0 := z4.free 0
  have f1 := z4.free 1
  have hq := Lib.hid ((z4.set 0 (.string k)).set 1 (.string v))
  have hend := Lib.hid ((hbw2.setCell (p := ⟨b4, 0, none⟩) hlow (.string k)).setCell (p := ⟨b4, 1, none⟩) hlow (.string v))
  clear hb2 z4 hbw2 c1
  go_wp2
  have r0 := hq.out.at' (i := 0) rfl
  have r1 := hq.out.at' (i := 1) rfl
  refine bodyPost_ret (v := .tuple #[.agg #[.string k, .string v], .bool true]) (by simp [results, Tryz.f18, go_sem, r0, r1]) rfl ⟨rfl, hend.out⟩
end
end Go.Proofs.YtjcpclcmnhpgpaaGreatDoor

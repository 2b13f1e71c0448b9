/-
  The seat's own texts, part w: BtP, BdP, BaP.
-/
import Derived.Test.YtjcpclcmnhpgpaaGreatDoorFMu

set_option linter.unusedVariables false
set_option linter.unusedSimpArgs false
namespace Go.Proofs.YtjcpclcmnhpgpaaGreatDoor
structure It where
  kh : Nat
  vh : Nat
  k : ByteArray
  v : ByteArray
namespace It
def pr (i : It) : Pr := (i.k, i.v)
def hs (i : It) : List Nat := [i.kh, i.vh]
structure At (R : Nat → Option (List Nat)) (i : It) : Prop where
  kt : R i.kh = some (Tx.wordsL i.k.data.toList)
  vt : R i.vh = some (Tx.wordsL i.v.data.toList)
  ks : i.k.size ≤ 1000
  vs : i.v.size ≤ 1000
theorem At.congr {R R' : Nat → Option (List Nat)} {i : It} (h : At R i) (e : ∀ z ∈ i.hs, R' z = R z) : At R' i :=
  ⟨(e _ (by simp [hs])).trans h.kt, (e _ (by simp [hs])).trans h.vt, h.ks, h.vs⟩
end It
structure Sb where
  h : Nat
  its : List It
  ns : List Nat
abbrev Lk := It × Sb
namespace Bt
def rest (l : List Lk) : List It := l.flatMap fun p => p.1 :: p.2.its
def itsOf (c : Sb) (l : List Lk) : List It := c.its ++ rest l
def nsOf (c : Sb) (l : List Lk) : List Nat := c.ns ++ l.flatMap fun p => p.2.ns
def nodeOf (c : Sb) (l : List Lk) : BN := ⟨l.map (·.1.kh), l.map (·.1.vh), c.h :: l.map (·.2.h), (itsOf c l).length⟩
def leafOf (l : List It) : BN := ⟨l.map (·.kh), l.map (·.vh), [], l.length⟩
def At (R : Nat → Option (List Nat)) (t : Nat) : Nat → Nat → Sb → Prop
  | 0, lo, s => s.ns = [s.h] ∧ lo ≤ s.its.length ∧ BnAt R t s.h (leafOf s.its)
  | a + 1, lo, s => ∃ c l, s.its = itsOf c l ∧ s.ns = s.h :: nsOf c l ∧ lo ≤ l.length ∧ BnAt R t s.h (nodeOf c l) ∧ At R t a (t - 1) c ∧ ∀ p ∈ l, At R t a (t - 1) p.2
theorem rest_cons (p : Lk) (l : List Lk) : rest (p :: l) = p.1 :: (p.2.its ++ rest l) := by simp [rest]
theorem rest_append (l m : List Lk) : rest (l ++ m) = rest l ++ rest m := by simp [rest]
theorem itsOf_cons (c : Sb) (p : Lk) (l : List Lk) : itsOf c (p :: l) = c.its ++ (p.1 :: itsOf p.2 l) := by simp [itsOf, rest]
theorem nsOf_cons (c : Sb) (p : Lk) (l : List Lk) : nsOf c (p :: l) = c.ns ++ nsOf p.2 l := by simp [nsOf]
theorem ns_pos {R : Nat → Option (List Nat)} {t : Nat} : ∀ {a lo : Nat} {s : Sb}, At R t a lo s → s.h ∈ s.ns
  | 0, lo, s, h => by rw [h.1]; simp
  | a + 1, lo, s, h => by obtain ⟨c, l, _, h2, _⟩ := h; rw [h2]; simp
theorem At.congr {R R' : Nat → Option (List Nat)} {t : Nat} : ∀ {a lo : Nat} {s : Sb}, At R t a lo s → (∀ x ∈ s.ns, R' x = R x) → At R' t a lo s
  | 0, lo, s, h, e => by
    obtain ⟨h1, h2, h3, h4⟩ := h
    exact ⟨h1, h2, (e s.h (by rw [h1]; simp)).trans h3, h4⟩
  | a + 1, lo, s, h, e => by
    obtain ⟨c, l, h1, h2, h3, ⟨h4, h5⟩, h6, h7⟩ := h
    rw [h2] at e
    refine ⟨c, l, h1, h2, h3, ⟨(e s.h (by simp)).trans h4, h5⟩, h6.congr fun x hx => e x ?_, fun p hp => (h7 p hp).congr fun x hx => e x ?_⟩
    · simp [nsOf, hx]
    · simp only [nsOf, List.mem_cons, List.mem_append, List.mem_flatMap]
      exact .inr (.inr ⟨p, hp, hx⟩)
theorem At.lower {R : Nat → Option (List Nat)} {t : Nat} {a lo lo' : Nat} {s : Sb} (h : At R t a lo s) (hl : lo' ≤ lo) : At R t a lo' s := by
  cases a with
  | zero => exact ⟨h.1, Nat.le_trans hl h.2.1, h.2.2⟩
  | succ a => obtain ⟨c, l, h1, h2, h3, h4⟩ := h; exact ⟨c, l, h1, h2, Nat.le_trans hl h3, h4⟩
theorem At.node {R : Nat → Option (List Nat)} {t a lo : Nat} {s : Sb} (h : At R t a lo s) : ∃ n, BnAt R t s.h n ∧ n.size = s.its.length := by
  cases a with
  | zero => exact ⟨_, h.2.2, rfl⟩
  | succ a => obtain ⟨c, l, h1, h2, h3, h4, _⟩ := h; exact ⟨_, h4, by rw [h1]; rfl⟩
def kid (c : Sb) : List Lk → Nat → Sb
  | _, 0 => c
  | [], _ + 1 => c
  | p :: l, k + 1 => kid p.2 l k
def pre (c : Sb) : List Lk → Nat → List It
  | _, 0 => []
  | [], _ + 1 => []
  | p :: l, k + 1 => c.its ++ p.1 :: pre p.2 l k
def sumK (c : Sb) : List Lk → Nat → Nat
  | _, 0 => 0
  | [], _ + 1 => 0
  | p :: l, k + 1 => c.its.length + sumK p.2 l k
theorem parts_at : ∀ (c : Sb) (l : List Lk) (k : Nat), k ≤ l.length → itsOf c l = pre c l k ++ ((kid c l k).its ++ rest (l.drop k))
  | c, l, 0, _ => by cases l <;> rfl
  | c, [], k + 1, h => absurd h (by simp)
  | c, p :: l, k + 1, h => by
    rw [itsOf_cons, parts_at p.2 l k (by simpa using h)]
    simp [pre, kid]
theorem pre_len : ∀ (c : Sb) (l : List Lk) (k : Nat), k ≤ l.length → (pre c l k).length = k + sumK c l k
  | c, l, 0, _ => by cases l <;> rfl
  | c, [], k + 1, h => absurd h (by simp)
  | c, p :: l, k + 1, h => by
    simp only [pre, sumK, List.length_append, List.length_cons, pre_len p.2 l k (by simpa using h)]
    omega
theorem kid_get : ∀ (c : Sb) (l : List Lk) (k : Nat), k ≤ l.length → (c.h :: l.map (·.2.h))[k]? = some (kid c l k).h
  | c, l, 0, _ => by cases l <;> rfl
  | c, [], k + 1, h => absurd h (by simp)
  | c, p :: l, k + 1, h => kid_get p.2 l k (by simpa using h)
theorem kid_all {p : Sb → Prop} : ∀ {c : Sb} {l : List Lk} (k : Nat), p c → (∀ x ∈ l, p x.2) → p (kid c l k)
  | c, l, 0, h, _ => by cases l <;> exact h
  | c, [], k + 1, h, _ => h
  | c, x :: l, k + 1, h, h2 => kid_all k (h2 x (by simp)) (fun y hy => h2 y (by simp [hy]))
theorem pre_last : ∀ (c : Sb) (l : List Lk) (k : Nat) (hk : k < l.length), ∃ u, pre c l (k + 1) = u ++ [l[k].1] ∧ u = pre c l k ++ (kid c l k).its
  | c, [], k, hk => absurd hk (by simp)
  | c, p :: l, 0, hk => by
    refine ⟨c.its, ?_, ?_⟩
    · cases l <;> simp [pre]
    · cases l <;> simp [pre, kid]
  | c, p :: l, k + 1, hk => by
    obtain ⟨u, h1, h2⟩ := pre_last p.2 l k (by simpa using hk)
    refine ⟨c.its ++ p.1 :: u, ?_, ?_⟩
    · show c.its ++ p.1 :: pre p.2 l (k + 1) = _
      rw [h1]; simp
    · rw [h2]; simp [pre, kid]
def prs (l : List It) : List Pr := l.map It.pr
theorem prs_append (l m : List It) : prs (l ++ m) = prs l ++ prs m := by simp [prs]
theorem prs_len (l : List It) : (prs l).length = l.length := by simp [prs]
theorem prs_cons (i : It) (l : List It) : prs (i :: l) = i.pr :: prs l := rfl
structure Spot (l : List Lk) (key : ByteArray) (k : Nat) : Prop where
  le : k ≤ l.length
  low : ∀ i (h : i < l.length), i < k → Tx.cmp l[i].1.k key < 0
  high : ∀ i (h : i < l.length), k ≤ i → ¬ Tx.cmp l[i].1.k key < 0
theorem cmp_lt_le {a b c : ByteArray} (h : Tx.cmp a b < 0) (k : ¬ 0 < Tx.cmp b c) : Tx.cmp a c < 0 := by
  by_cases h0 : Tx.cmp b c = 0
  · rw [← cmp_zero.1 h0]; exact h
  · exact cmp_lt_trans h (by omega)
theorem rising_low {a b : List Pr} {x : Pr} {key : ByteArray} (h : Rising (a ++ x :: b)) (hx : ¬ 0 < Tx.cmp x.1 key) : ∀ p ∈ a, Tx.cmp p.1 key < 0 := by
  intro p hp
  have h1 := (List.pairwise_append.1 h).2.2 p hp x (by simp)
  exact cmp_lt_le h1 hx
theorem rising_high {a b : List Pr} {x : Pr} {key : ByteArray} (h : Rising (a ++ x :: b)) (hx : ¬ Tx.cmp x.1 key < 0) : ∀ p ∈ b, ¬ Tx.cmp p.1 key < 0 := by
  intro p hp
  have h1 := (List.pairwise_cons.1 (List.pairwise_append.1 h).2.1).1 p hp
  intro h2
  exact hx (cmp_lt_le h1 (by omega))
section
variable {c : Sb} {l : List Lk} {key : ByteArray} {k : Nat}
theorem Spot.pre (hs : Spot l key k) (hr : Rising (prs (itsOf c l))) : ∀ p ∈ prs (pre c l k), Tx.cmp p.1 key < 0 := by
  have hle := hs.le
  cases k with
  | zero => intro p hp; cases l <;> simp [Bt.pre, prs] at hp
  | succ j =>
    obtain ⟨u, h1, h2⟩ := pre_last c l j (by omega)
    have hl := hs.low j (by omega) (by omega)
    have hd : Rising (prs u ++ l[j].1.pr :: prs ((kid c l (j + 1)).its ++ rest (l.drop (j + 1)))) := by
      rw [parts_at c l (j + 1) hle, h1] at hr
      simpa [prs_append, prs_cons, prs] using hr
    rw [h1, prs_append]
    intro p hp
    rcases List.mem_append.1 hp with hp | hp
    · exact rising_low hd (by show ¬ 0 < Tx.cmp l[j].1.k key; omega) p hp
    · simp only [prs, List.map_cons, List.map_nil, List.mem_singleton] at hp
      rw [hp]
      exact hl
theorem Spot.post (hs : Spot l key k) (hr : Rising (prs (itsOf c l))) : ∀ p ∈ prs (rest (l.drop k)), ¬ Tx.cmp p.1 key < 0 := by
  have hle := hs.le
  by_cases hk : k < l.length
  · have hh := hs.high k hk (Nat.le_refl _)
    rw [List.drop_eq_getElem_cons hk, rest_cons, prs_cons]
    rw [parts_at c l k hle, List.drop_eq_getElem_cons hk, rest_cons, ← List.append_assoc, prs_append, prs_cons] at hr
    intro p hp
    rcases List.mem_cons.1 hp with rfl | hp
    · exact hh
    · exact rising_high hr hh p hp
  · rw [List.drop_eq_nil_of_le (by omega)]
    intro p hp
    simp [rest, prs] at hp
theorem Spot.rank (hs : Spot l key k) (hr : Rising (prs (itsOf c l))) : rankL (prs (itsOf c l)) key = k + sumK c l k + rankL (prs (kid c l k).its) key := by
  rw [parts_at c l k hs.le, prs_append, prs_append, rankL_append, rankL_append, rankL_all (hs.pre hr), rankL_none (hs.post hr), prs_len, pre_len c l k hs.le]
  omega
theorem Spot.kid_low (hs : Spot l key k) (hr : Rising (prs (itsOf c l))) (hk : k < l.length) (he : l[k].1.k = key) : ∀ p ∈ prs (kid c l k).its, Tx.cmp p.1 key < 0 := by
  have hh := hs.high k hk (Nat.le_refl _)
  rw [parts_at c l k hs.le, List.drop_eq_getElem_cons hk, rest_cons, ← List.append_assoc, prs_append, prs_cons] at hr
  intro p hp
  refine rising_low hr ?_ p (by rw [prs_append]; exact List.mem_append.2 (.inr hp))
  show ¬ 0 < Tx.cmp l[k].1.k key
  rw [he, (cmp_zero.2 rfl : Tx.cmp key key = 0)]
  omega
end
def findI (l : List It) (key : ByteArray) : Option It := l.find? fun i => decide (i.k = key)
theorem findI_append (a b : List It) (key : ByteArray) : findI (a ++ b) key = (findI a key).or (findI b key) := by
  unfold findI; rw [List.find?_append]
theorem findI_none {l : List It} {key : ByteArray} (h : ∀ i ∈ l, i.k ≠ key) : findI l key = none := by
  unfold findI
  rw [List.find?_eq_none]
  intro i hi
  simpa using h i hi
theorem not_key_low {l : List It} {key : ByteArray} (h : ∀ p ∈ prs l, Tx.cmp p.1 key < 0) : ∀ i ∈ l, i.k ≠ key := by
  intro i hi e
  have := h i.pr (List.mem_map.2 ⟨i, hi, rfl⟩)
  rw [show i.pr.1 = key from e, (cmp_zero.2 rfl : Tx.cmp key key = 0)] at this
  omega
section
variable {c : Sb} {l : List Lk} {key : ByteArray} {k : Nat}
theorem Spot.here (hs : Spot l key k) (hr : Rising (prs (itsOf c l))) (hk : k < l.length) (he : l[k].1.k = key) : findI (itsOf c l) key = some l[k].1 := by
  rw [parts_at c l k hs.le, findI_append, findI_append, findI_none (not_key_low (hs.pre hr)), findI_none (not_key_low (hs.kid_low hr hk he)), List.drop_eq_getElem_cons hk, rest_cons]
  simp [findI, he]
theorem Spot.gone (hs : Spot l key k) (hr : Rising (prs (itsOf c l))) (he : ∀ hk : k < l.length, l[k].1.k ≠ key) : findI (itsOf c l) key = findI (kid c l k).its key := by
  rw [parts_at c l k hs.le, findI_append, findI_append, findI_none (not_key_low (hs.pre hr)), Option.none_or]
  rw [findI_none (l := rest (l.drop k)), Option.or_none]
  intro i hi e
  by_cases hk : k < l.length
  · have hh := hs.high k hk (Nat.le_refl _)
    have hne := he hk
    rw [List.drop_eq_getElem_cons hk, rest_cons] at hi
    rcases List.mem_cons.1 hi with rfl | hi
    · exact hne e
    · rw [parts_at c l k hs.le, List.drop_eq_getElem_cons hk, rest_cons, ← List.append_assoc, prs_append, prs_cons] at hr
      have h1 := (List.pairwise_cons.1 (List.pairwise_append.1 hr).2.1).1 i.pr (List.mem_map.2 ⟨i, hi, rfl⟩)
      have h2 : Tx.cmp l[k].1.k key < 0 := by rw [← e]; exact h1
      exact hh h2
  · rw [List.drop_eq_nil_of_le (by omega)] at hi
    simp [rest] at hi
end
theorem findI_rank : ∀ {l : List It} {key : ByteArray}, Rising (prs l) → findI l key = (l[rankL (prs l) key]?).filter fun i => decide (i.k = key)
  | [], key, _ => rfl
  | i :: l, key, hr => by
    obtain ⟨h1, h2⟩ := List.pairwise_cons.1 hr
    rw [prs_cons, rankL_cons]
    by_cases hl : Tx.cmp i.k key < 0
    · have hne : i.k ≠ key := fun e => by rw [e, (cmp_zero.2 rfl : Tx.cmp key key = 0)] at hl; omega
      rw [if_pos (show Tx.cmp i.pr.1 key < 0 from hl), List.getElem?_cons_succ, ← findI_rank h2]
      simp [findI, hne]
    · rw [if_neg (show ¬ Tx.cmp i.pr.1 key < 0 from hl), Nat.add_zero, show rankL (prs l) key = 0 from rankL_none (fun p hp hp2 => hl (cmp_lt_trans (h1 p hp) hp2))]
      by_cases he : i.k = key
      · simp [findI, he, Option.filter]
      · have hno : ∀ j ∈ l, j.k ≠ key := fun j hj e => by
          have := h1 j.pr (List.mem_map.2 ⟨j, hj, rfl⟩)
          rw [show j.pr.1 = key from e] at this
          exact hl this
        have := findI_none hno
        unfold findI at this ⊢
        simp [he, this, Option.filter]
theorem findI_has {l : List It} {key : ByteArray} (hr : Rising (prs l)) : (findL (prs l) key = if (findI l key).isSome then ((rankL (prs l) key : Nat) : Int) else -1) ∧ ∀ i, findI l key = some i → l[rankL (prs l) key]? = some i ∧ i.k = key := by
  have h := findI_rank (key := key) hr
  constructor
  · unfold findL
    rw [h]
    have e : (prs l)[rankL (prs l) key]? = (l[rankL (prs l) key]?).map It.pr := by unfold prs; rw [List.getElem?_map]
    rw [e]
    cases h1 : l[rankL (prs l) key]? with
    | none => simp
    | some i =>
      by_cases h2 : i.k = key
      · simp [h2, It.pr]
      · simp [h2, It.pr]
  · intro i hi
    rw [h] at hi
    have := Option.filter_eq_some_iff.1 hi
    exact ⟨this.1, by simpa using this.2⟩
end Bt
end Go.Proofs.YtjcpclcmnhpgpaaGreatDoor

set_option linter.unusedVariables false
set_option linter.unusedSimpArgs false
namespace Go.Proofs.YtjcpclcmnhpgpaaGreatDoor
open Go.RowKit Go.Shelf
def bsF (f : Nat → Int) : Nat → Nat → Nat → Nat
  | 0, lo, _ => lo
  | m + 1, lo, hi => if lo < hi then (if f ((lo + hi) / 2) < 0 then bsF f m ((lo + hi) / 2 + 1) hi else bsF f m lo ((lo + hi) / 2)) else lo
theorem bsF_le (f : Nat → Int) : ∀ (m lo hi : Nat), lo ≤ hi → lo ≤ bsF f m lo hi ∧ bsF f m lo hi ≤ hi
  | 0, lo, hi, h => ⟨Nat.le_refl _, h⟩
  | m + 1, lo, hi, h => by
    unfold bsF
    split
    · split
      · have := bsF_le f m ((lo + hi) / 2 + 1) hi (by omega); omega
      · have := bsF_le f m lo ((lo + hi) / 2) (by omega); omega
    · omega
theorem bsF_rank (f : Nat → Int) (r : Nat) : ∀ (m lo hi : Nat), lo ≤ r → r ≤ hi → hi - lo ≤ m → (∀ i, i < hi → i < r → f i < 0) → (∀ i, i < hi → r ≤ i → ¬ f i < 0) → bsF f m lo hi = r
  | 0, lo, hi, h1, h2, h3, _, _ => by unfold bsF; omega
  | m + 1, lo, hi, h1, h2, h3, h4, h5 => by
    unfold bsF
    split
    · next hlt =>
      split
      · next hc =>
        have : ¬ r ≤ (lo + hi) / 2 := fun h => h5 _ (by omega) h hc
        exact bsF_rank f r m _ hi (by omega) h2 (by omega) h4 h5
      · next hc =>
        have : ¬ (lo + hi) / 2 < r := fun h => hc (h4 _ (by omega) h)
        exact bsF_rank f r m lo _ h1 (by omega) (by omega) (fun i hi' => h4 i (by omega)) (fun i hi' => h5 i (by omega))
    · omega
section
variable (R : Nat → Option (List Nat)) (t : Nat)
def keyB (x : Nat) : ByteArray := (blobR R x).getD ⟨#[]⟩
def cmpK (l : List Nat) (key : ByteArray) (i : Nat) : Int := Tx.cmp (keyB R (l.getD i 0)) key
def plK (l : List Nat) (key : ByteArray) : Nat := bsF (cmpK R l key) l.length 0 l.length
def plH (l : List Nat) (key : ByteArray) : Bool := decide (plK R l key < l.length) && decide (cmpK R l key (plK R l key) = 0)
def bszR (x : Nat) : Int := wrap64 (bnG R t x).size
def sumSz (l : List Nat) (below : Int) : Int := l.foldl (fun b x => wrap64 (b + bszR R t x)) below
def bdown (key : ByteArray) : Nat → Nat → Int → Option (Nat × Nat) × Int
  | 0, _, below => (none, below)
  | f + 1, x, below =>
    if bnE R t x ≠ 0 then (none, below) else
    bstep (bnG R t x) (plK R (bnG R t x).keys key) (plH R (bnG R t x).keys key) below (bdown key f)
where
  bstep (n : BN) (k : Nat) (b : Bool) (below : Int) (rec : Nat → Int → Option (Nat × Nat) × Int) : Option (Nat × Nat) × Int :=
    cond b
      (some (n.keys.getD k 0, n.vals.getD k 0), if n.kids = [] then sumSz R t (n.kids.take k) (wrap64 (below + (k : Nat))) else wrap64 (sumSz R t (n.kids.take k) (wrap64 (below + (k : Nat))) + bszR R t (n.kids.getD k 0)))
      (if n.kids = [] then (none, sumSz R t (n.kids.take k) (wrap64 (below + (k : Nat)))) else rec (n.kids.getD k 0) (sumSz R t (n.kids.take k) (wrap64 (below + (k : Nat)))))
end
namespace Bt
section
variable {R : Nat → Option (List Nat)} {t : Nat}
theorem keyB_at {i : It} (h : i.At R) : keyB R i.kh = i.k := by
  unfold keyB blobR
  rw [h.kt]
  obtain ⟨h1, h2⟩ := Tx.text_words i.k h.ks
  show (if Tx.isText (Tx.wordsL i.k.data.toList) then some (Tx.textOf (Tx.wordsL i.k.data.toList)) else none).getD ⟨#[]⟩ = _
  rw [if_pos h1, h2]
  rfl
theorem drop_mem {α : Type} {l : List α} {r i : Nat} (hi : i < l.length) (h : r ≤ i) : l[i] ∈ l.drop r := by
  rw [List.mem_iff_getElem]
  exact ⟨i - r, by rw [List.length_drop]; omega, by simp [List.getElem_drop, Nat.add_sub_of_le h]⟩
theorem take_mem {α : Type} {l : List α} {r i : Nat} (hi : i < l.length) (h : i < r) : l[i] ∈ l.take r := by
  rw [List.mem_iff_getElem]
  exact ⟨i, by rw [List.length_take]; omega, by simp⟩
theorem prs_at {ks : List It} {i : Nat} (h : i < ks.length) : (prs ks)[i]'(by rw [prs_len]; exact h) = ks[i].pr := by simp [prs]
theorem place_items {ks : List It} {key : ByteArray} (hA : ∀ i ∈ ks, i.At R) (hr : Rising (prs ks)) : plK R (ks.map (·.kh)) key = rankL (prs ks) key := by
  unfold plK
  obtain ⟨h1, h2⟩ := rank_split (k := key) hr
  have hle := rankL_le (prs ks) key
  rw [prs_len] at hle
  have hf : ∀ i (h : i < ks.length), cmpK R (ks.map (·.kh)) key i = Tx.cmp ks[i].k key := fun i h => by
    unfold cmpK
    rw [List.getD_eq_getElem?_getD, List.getElem?_map, List.getElem?_eq_getElem h]
    show Tx.cmp (keyB R ks[i].kh) key = _
    rw [keyB_at (hA _ (List.getElem_mem h))]
  refine bsF_rank _ _ _ _ _ (Nat.zero_le _) (by simpa using hle) (by simp) (fun i hi hr2 => ?_) (fun i hi hr2 => ?_)
  · rw [List.length_map] at hi
    rw [hf i hi]
    exact h1 ks[i].pr (prs_at hi ▸ take_mem (by rw [prs_len]; exact hi) hr2)
  · rw [List.length_map] at hi
    rw [hf i hi]
    exact h2 ks[i].pr (prs_at hi ▸ drop_mem (by rw [prs_len]; exact hi) hr2)
theorem cmpK_items {ks : List It} {key : ByteArray} (hA : ∀ i ∈ ks, i.At R) {i : Nat} (h : i < ks.length) : cmpK R (ks.map (·.kh)) key i = Tx.cmp ks[i].k key := by
  unfold cmpK
  rw [List.getD_eq_getElem?_getD, List.getElem?_map, List.getElem?_eq_getElem h]
  show Tx.cmp (keyB R ks[i].kh) key = _
  rw [keyB_at (hA _ (List.getElem_mem h))]
theorem here_items {ks : List It} {key : ByteArray} (hA : ∀ i ∈ ks, i.At R) (hr : Rising (prs ks)) : plH R (ks.map (·.kh)) key = (findI ks key).isSome := by
  unfold plH
  rw [place_items hA hr, findI_rank hr, List.length_map]
  by_cases h : rankL (prs ks) key < ks.length
  · rw [List.getElem?_eq_getElem h, decide_eq_true h, Bool.true_and, cmpK_items hA h]
    by_cases he : ks[rankL (prs ks) key].k = key
    · simp [Option.filter, he, cmp_zero.2]
    · have : Tx.cmp ks[rankL (prs ks) key].k key ≠ 0 := fun e => he (cmp_zero.1 e)
      simp [Option.filter, he, this]
  · rw [List.getElem?_eq_none (by omega), decide_eq_false h]
    rfl
theorem At.get (ht : BN.Deg t) {a lo : Nat} {s : Sb} (h : At R t a lo s) : bnE R t s.h = 0 ∧ (bnG R t s.h).size = s.its.length := by
  obtain ⟨n, h1, h2⟩ := h.node
  obtain ⟨e1, e2⟩ := h1.get ht
  exact ⟨e2, by rw [e1]; exact h2⟩
theorem At.bsz (ht : BN.Deg t) {a lo : Nat} {s : Sb} (h : At R t a lo s) (hb : s.its.length < 4611686018427387904) : bszR R t s.h = (s.its.length : Nat) := by
  unfold bszR
  rw [(h.get ht).2]
  exact IntWalk.wrap64_in _ (by omega)
theorem its_le (c : Sb) : ∀ (l : List Lk), c.its.length ≤ (itsOf c l).length ∧ ∀ p ∈ l, p.2.its.length + 1 ≤ (itsOf c l).length
  | [] => ⟨by simp [itsOf, rest], by simp⟩
  | q :: l => by
    obtain ⟨h1, h2⟩ := its_le q.2 l
    rw [itsOf_cons]
    simp only [List.length_append, List.length_cons]
    refine ⟨by omega, fun p hp => ?_⟩
    rcases List.mem_cons.1 hp with rfl | hp
    · omega
    · have := h2 p hp; omega
theorem sumSz_kids : ∀ (c : Sb) (l : List Lk) (k : Nat) (b : Nat), k ≤ l.length → bszR R t c.h = (c.its.length : Nat) → (∀ p ∈ l, bszR R t p.2.h = (p.2.its.length : Nat)) → b + sumK c l k < 4611686018427387904 →
    sumSz R t ((c.h :: l.map (·.2.h)).take k) (b : Nat) = ((b + sumK c l k : Nat) : Int)
  | c, l, 0, b, _, _, _, _ => by cases l <;> rfl
  | c, [], k + 1, b, h, _, _, _ => absurd h (by simp)
  | c, p :: l, k + 1, b, h, h1, h2, h3 => by
    simp only [sumK] at h3
    have ih := sumSz_kids p.2 l k (b + c.its.length) (by simpa using h) (h2 p (by simp)) (fun q hq => h2 q (by simp [hq])) (by omega)
    unfold sumSz at ih ⊢
    rw [List.take_succ_cons, List.foldl_cons, h1, ← Int.natCast_add, IntWalk.wrap64_in _ (by omega)]
    rw [show ((p.2.h :: l.map (·.2.h)).take k) = (((p :: l).map (·.2.h))).take k from rfl] at ih
    rw [ih]
    simp only [sumK]
    congr 1
    omega
theorem keys_rising : ∀ {c : Sb} {l : List Lk}, Rising (prs (itsOf c l)) → Rising (prs (l.map (·.1)))
  | c, [], _ => List.Pairwise.nil
  | c, p :: l, h => by
    rw [itsOf_cons, prs_append, prs_cons] at h
    have h1 := (List.pairwise_append.1 h).2.1
    obtain ⟨h2, h3⟩ := List.pairwise_cons.1 h1
    rw [List.map_cons, prs_cons]
    refine List.pairwise_cons.2 ⟨fun q hq => ?_, keys_rising h3⟩
    refine h2 q ?_
    obtain ⟨i, hi, rfl⟩ := List.mem_map.1 hq
    obtain ⟨x, hx, rfl⟩ := List.mem_map.1 hi
    refine List.mem_map.2 ⟨x.1, ?_, rfl⟩
    refine List.mem_append.2 (.inr ?_)
    exact List.mem_flatMap.2 ⟨x, hx, by simp⟩
theorem keys_in {c : Sb} {l : List Lk} {i : It} (h : i ∈ l.map (·.1)) : i ∈ itsOf c l := by
  obtain ⟨x, hx, rfl⟩ := List.mem_map.1 h
  exact List.mem_append.2 (.inr (List.mem_flatMap.2 ⟨x, hx, by simp⟩))
theorem spot_of {l : List Lk} {key : ByteArray} (hr : Rising (prs (l.map (·.1)))) : Spot l key (rankL (prs (l.map (·.1))) key) := by
  obtain ⟨h1, h2⟩ := rank_split (k := key) hr
  have hle := rankL_le (prs (l.map (·.1))) key
  rw [prs_len, List.length_map] at hle
  refine ⟨hle, fun i hi hk => ?_, fun i hi hk => ?_⟩
  · have hi2 : i < (l.map (·.1)).length := by rw [List.length_map]; exact hi
    have h9 := h1 _ (take_mem (l := prs (l.map (·.1))) (i := i) (by rw [prs_len]; exact hi2) hk)
    rw [prs_at hi2, List.getElem_map] at h9
    exact h9
  · have hi2 : i < (l.map (·.1)).length := by rw [List.length_map]; exact hi
    have h9 := h2 _ (drop_mem (l := prs (l.map (·.1))) (i := i) (by rw [prs_len]; exact hi2) hk)
    rw [prs_at hi2, List.getElem_map] at h9
    exact h9
theorem kid_its {c : Sb} {l : List Lk} {k : Nat} (hk : k ≤ l.length) {i : It} (h : i ∈ (kid c l k).its) : i ∈ itsOf c l := by
  rw [parts_at c l k hk]
  exact List.mem_append.2 (.inr (List.mem_append.2 (.inl h)))
theorem kid_rising {c : Sb} {l : List Lk} {k : Nat} (hk : k ≤ l.length) (hr : Rising (prs (itsOf c l))) : Rising (prs (kid c l k).its) := by
  rw [parts_at c l k hk, prs_append, prs_append] at hr
  exact (List.pairwise_append.1 (List.pairwise_append.1 hr).2.1).1
theorem kid_len {c : Sb} {l : List Lk} {k : Nat} (hk : k ≤ l.length) : k + sumK c l k + (kid c l k).its.length ≤ (itsOf c l).length := by
  rw [parts_at c l k hk, List.length_append, List.length_append, pre_len c l k hk]
  omega
theorem bdown_node {key : ByteArray} {f x k : Nat} {n : BN} {b : Bool} {below : Int} (e1 : bnG R t x = n) (e2 : bnE R t x = 0) (hk : plK R n.keys key = k) (hb : plH R n.keys key = b) : bdown R t key (f + 1) x below = bdown.bstep R t n k b below (bdown R t key f) := by
  subst e1 hk hb
  conv => lhs; unfold bdown
  rw [if_neg (by rw [e2]; simp)]
theorem bdown_leaf {n : BN} {k : Nat} {b : Bool} {below : Nat} {rec : Nat → Int → Option (Nat × Nat) × Int} (h : n.kids = []) (hb : below + k < 4611686018427387904) : bdown.bstep R t n k b below rec = (cond b (some (n.keys.getD k 0, n.vals.getD k 0)) none, ((below + k : Nat) : Int)) := by
  unfold bdown.bstep
  rw [h, if_pos rfl, if_pos rfl, List.take_nil]
  have : sumSz R t [] (wrap64 ((below : Int) + (k : Nat))) = ((below + k : Nat) : Int) := by
    unfold sumSz
    rw [List.foldl_nil, ← Int.natCast_add, IntWalk.wrap64_in _ (by omega)]
  rw [this]
  cases b <;> rfl
theorem bdown_inner {n : BN} {k : Nat} {b : Bool} {below sz kid sk : Nat} {rec : Nat → Int → Option (Nat × Nat) × Int} (h : n.kids ≠ []) (hs : sumSz R t (n.kids.take k) ((below + k : Nat) : Int) = ((sk : Nat) : Int)) (hg : n.kids.getD k 0 = kid) (hz : bszR R t kid = ((sz : Nat) : Int)) (hb : sk + sz < 4611686018427387904) (hb2 : below + k < 4611686018427387904) :
    bdown.bstep R t n k b below rec = cond b (some (n.keys.getD k 0, n.vals.getD k 0), ((sk + sz : Nat) : Int)) (rec kid ((sk : Nat) : Int)) := by
  unfold bdown.bstep
  rw [if_neg h, if_neg h, ← Int.natCast_add, IntWalk.wrap64_in ((below + k : Nat) : Int) (by omega), hs, hg, hz, ← Int.natCast_add, IntWalk.wrap64_in ((sk + sz : Nat) : Int) (by omega)]
theorem bd_arith {below k sk n N : Nat} (h1 : k + sk + n ≤ N) (h2 : below + N < 4611686018427387904) : n < 4611686018427387904 ∧ below + k < 4611686018427387904 ∧ below + k + sk < 4611686018427387904 ∧ below + k + sk + n < 4611686018427387904 := by omega
theorem bd_arith2 {m N below : Nat} (h1 : m ≤ N) (h2 : below + N < 4611686018427387904) : m < 4611686018427387904 := by omega
theorem bdown_right (ht : BN.Deg t) (key : ByteArray) : ∀ (a lo f : Nat) (s : Sb) (below : Nat), At R t a lo s → (∀ i ∈ s.its, i.At R) → Rising (prs s.its) → a < f → below + s.its.length < 4611686018427387904 →
    bdown R t key f s.h (below : Nat) = ((findI s.its key).map (fun i => (i.kh, i.vh)), ((below + rankL (prs s.its) key : Nat) : Int)) := by
  intro a
  induction a with
  | zero =>
    intro lo f s below h hA hr hf hb
    obtain ⟨f, rfl⟩ : ∃ g, f = g + 1 := ⟨f - 1, by omega⟩
    obtain ⟨e1, e2⟩ := h.2.2.get ht
    have hle := rankL_le (prs s.its) key
    rw [prs_len] at hle
    rw [bdown_node e1 e2 (place_items hA hr) (here_items hA hr), bdown_leaf rfl (by omega)]
    cases hfi : findI s.its key with
    | none => rfl
    | some i =>
      obtain ⟨h1, _⟩ := (findI_has hr).2 i hfi
      simp only [leafOf, Option.isSome_some, cond_true, Option.map_some, List.getD_eq_getElem?_getD, List.getElem?_map, h1, Option.getD_some]
  | succ a ih =>
    intro lo f s below h hA hr hf hb
    obtain ⟨f, rfl⟩ : ∃ g, f = g + 1 := ⟨f - 1, by omega⟩
    obtain ⟨c, l, h1, h2, h3, h4, h5, h6⟩ := h
    obtain ⟨e1, e2⟩ := h4.get ht
    rw [h1] at hA hr hb ⊢
    have hkr := keys_rising hr
    have hkA : ∀ i ∈ l.map (·.1), i.At R := fun i hi => hA i (keys_in hi)
    have hsp := spot_of (key := key) hkr
    have hpl := place_items (key := key) hkA hkr
    have hhe := here_items (key := key) hkA hkr
    rw [List.map_map] at hpl hhe
    have hfh := fun i => (findI_has (key := key) hkr).2 i
    generalize rankL (prs (l.map (·.1))) key = k at hsp hpl hfh
    have hkl := hsp.le
    have hkid := kid_all k h5 h6
    have hll := kid_len (c := c) hkl
    have hlen := its_le c l
    obtain ⟨b1, b2, b3, b4⟩ := bd_arith hll hb
    have hbs : bszR R t c.h = (c.its.length : Nat) := h5.bsz ht (bd_arith2 hlen.1 hb)
    have hbs2 : ∀ p ∈ l, bszR R t p.2.h = (p.2.its.length : Nat) := fun p hp => (h6 p hp).bsz ht (bd_arith2 (Nat.le_trans (Nat.le_succ _) (hlen.2 p hp)) hb)
    have hsum := sumSz_kids c l k (below + k) hkl hbs hbs2 b3
    have hkg := kid_get c l k hkl
    have hks := hkid.bsz ht b1
    have ih9 := ih (t - 1) f (kid c l k) (below + k + sumK c l k) hkid (fun i hi => hA i (kid_its hkl hi)) (kid_rising hkl hr) (Nat.lt_of_succ_lt_succ hf) b4
    clear hbs hbs2 hlen ih
    rw [bdown_node e1 e2 hpl hhe, bdown_inner (by simp [nodeOf]) hsum (by show (c.h :: l.map (·.2.h)).getD k 0 = _; rw [List.getD_eq_getElem?_getD, hkg]; rfl) hks b4 b2]
    cases hfi : findI (l.map (·.1)) key with
    | some i =>
      obtain ⟨g1, g2⟩ := hfh i hfi
      rw [List.getElem?_map] at g1
      by_cases hlt : k < l.length
      · rw [List.getElem?_eq_getElem hlt] at g1
        simp only [Option.map_some, Option.some.injEq] at g1
        rw [hsp.here hr hlt (by rw [g1]; exact g2), hsp.rank hr, rankL_all (hsp.kid_low hr hlt (by rw [g1]; exact g2)), prs_len]
        simp only [nodeOf, Option.isSome_some, cond_true, List.getD_eq_getElem?_getD, List.getElem?_map, List.getElem?_eq_getElem hlt, Option.map_some, Option.getD_some]
        rw [Nat.add_assoc below k, Nat.add_assoc below]
      · rw [List.getElem?_eq_none (Nat.le_of_not_lt hlt)] at g1
        cases g1
    | none =>
      have hno : ∀ hk' : k < l.length, l[k].1.k ≠ key := fun hk' e => by
        unfold findI at hfi
        rw [List.find?_eq_none] at hfi
        exact absurd (hfi l[k].1 (List.mem_map.2 ⟨l[k], List.getElem_mem hk', rfl⟩)) (by simpa using e)
      rw [hsp.gone hr hno, hsp.rank hr]
      simp only [Option.isSome_none, cond_false]
      rw [ih9]
      rw [Nat.add_assoc below k, Nat.add_assoc below]
end
end Bt
end Go.Proofs.YtjcpclcmnhpgpaaGreatDoor

set_option linter.unusedVariables false
set_option linter.unusedSimpArgs false
namespace Go.Proofs.YtjcpclcmnhpgpaaGreatDoor
open Go.RowKit Go.Shelf
section
variable (R : Nat → Option (List Nat)) (t : Nat)
def atBelow (kids : List Nat) (i : Nat) : Int := if kids = [] then 0 else bszR R t (kids.getD i 0)
def atScan (kids : List Nat) : Nat → Nat → Int → Nat × Int × Bool
  | 0, i, k => (i, k, false)
  | m + 1, i, k => if k ≤ atBelow R t kids i then (i, k, decide (k = atBelow R t kids i)) else atScan kids m (i + 1) (wrap64 (k - wrap64 (atBelow R t kids i + 1)))
def bat : Nat → Nat → Int → Option (Nat × Nat)
  | 0, _, _ => none
  | f + 1, x, k =>
    if bnE R t x ≠ 0 then none else
    atGo (bnG R t x) (atScan R t (bnG R t x).kids (bnG R t x).keys.length 0 k) (bat f)
where
  atGo (n : BN) (p : Nat × Int × Bool) (rec : Nat → Int → Option (Nat × Nat)) : Option (Nat × Nat) :=
    cond p.2.2 (some (n.keys.getD p.1 0, n.vals.getD p.1 0)) (if n.kids = [] then none else rec (n.kids.getD p.1 0) p.2.1)
end
namespace Bt
section
variable {R : Nat → Option (List Nat)} {t : Nat}
theorem scan_leaf : ∀ (m i k : Nat), k < m → k < 4611686018427387904 → atScan R t [] m i (k : Nat) = (i + k, 0, true)
  | 0, i, k, h, _ => absurd h (by omega)
  | m + 1, i, k, h, hb => by
    unfold atScan atBelow
    rw [if_pos rfl]
    by_cases hk : k = 0
    · subst hk; rfl
    · rw [if_neg (by omega)]
      have e : wrap64 ((k : Int) - wrap64 (0 + 1)) = ((k - 1 : Nat) : Int) := by
        rw [show wrap64 (0 + 1) = 1 from IntWalk.wrap64_in _ (by omega), IntWalk.wrap64_in _ (by omega)]
        omega
      rw [e, scan_leaf m (i + 1) (k - 1) (by omega) (by omega), show i + 1 + (k - 1) = i + k by omega]
theorem scan_inner (kids : List Nat) (hk0 : kids ≠ []) : ∀ (c : Sb) (l : List Lk) (i k : Nat), (∀ j, j ≤ l.length → kids.getD (i + j) 0 = (kid c l j).h) → bszR R t c.h = (c.its.length : Nat) → (∀ p ∈ l, bszR R t p.2.h = (p.2.its.length : Nat)) → k < (itsOf c l).length → (itsOf c l).length < 4611686018427387904 →
    ∃ j k' b, atScan R t kids l.length i (k : Nat) = (i + j, ((k' : Nat) : Int), b) ∧ j ≤ l.length ∧ (b = true → ∃ h : j < l.length, (itsOf c l)[k]? = some l[j].1) ∧ (b = false → k' < (kid c l j).its.length ∧ (itsOf c l)[k]? = (kid c l j).its[k']?)
  | c, [], i, k, hkd, h1, h2, h3, h4 => by
    refine ⟨0, k, false, rfl, Nat.le_refl _, fun h => by (cases h), fun _ => ?_⟩
    have e : itsOf c [] = c.its := by simp [itsOf, rest]
    rw [e] at h3 ⊢
    exact ⟨h3, rfl⟩
  | c, p :: l, i, k, hkd, h1, h2, h3, h4 => by
    have hb : atBelow R t kids i = (c.its.length : Nat) := by
      unfold atBelow
      rw [if_neg hk0, show kids.getD i 0 = c.h from hkd 0 (Nat.zero_le _)]
      exact h1
    rw [itsOf_cons] at h3 h4 ⊢
    rw [List.length_append, List.length_cons] at h3 h4
    show ∃ j k' b, atScan R t kids (l.length + 1) i (k : Nat) = _ ∧ _
    unfold atScan
    rw [hb]
    by_cases hlt : k < c.its.length
    · refine ⟨0, k, false, ?_, Nat.zero_le _, fun h => by (cases h), fun _ => ⟨hlt, ?_⟩⟩
      · rw [if_pos (by omega), decide_eq_false (by omega)]
        rfl
      · show _ = c.its[k]?
        rw [List.getElem?_append_left hlt]
    · by_cases he : k = c.its.length
      · refine ⟨0, k, true, ?_, Nat.zero_le _, fun _ => ⟨by simp, ?_⟩, fun h => by (cases h)⟩
        · rw [if_pos (by omega), decide_eq_true (by omega)]
          rfl
        · rw [List.getElem?_append_right (by omega), he, Nat.sub_self]
          rfl
      · have e : wrap64 ((k : Int) - wrap64 ((c.its.length : Nat) + 1)) = ((k - (c.its.length + 1) : Nat) : Int) := by
          rw [IntWalk.wrap64_in (((c.its.length : Nat) : Int) + 1) (by omega), IntWalk.wrap64_in _ (by omega)]
          omega
        rw [if_neg (by omega), e]
        obtain ⟨j, k', b, g1, g2, g3, g4⟩ := scan_inner kids hk0 p.2 l (i + 1) (k - (c.its.length + 1)) (fun j hj => by rw [show i + 1 + j = i + (j + 1) by omega]; exact hkd (j + 1) (by simpa using hj)) (h2 p (by simp)) (fun q hq => h2 q (by simp [hq])) (by omega) (by omega)
        have eg : (c.its ++ p.1 :: itsOf p.2 l)[k]? = (itsOf p.2 l)[k - (c.its.length + 1)]? := by
          rw [List.getElem?_append_right (by omega), show k - c.its.length = (k - (c.its.length + 1)) + 1 by omega, List.getElem?_cons_succ]
        refine ⟨j + 1, k', b, by rw [g1, show i + 1 + j = i + (j + 1) by omega], by simpa using g2, fun h => ?_, fun h => ?_⟩
        · obtain ⟨h5, h6⟩ := g3 h
          exact ⟨by simpa using h5, by rw [eg, h6]; rfl⟩
        · obtain ⟨h5, h6⟩ := g4 h
          exact ⟨h5, by rw [eg, h6]; rfl⟩
theorem bat_right (ht : BN.Deg t) : ∀ (a lo f : Nat) (s : Sb) (k : Nat), At R t a lo s → a < f → k < s.its.length → s.its.length < 4611686018427387904 →
    bat R t f s.h (k : Nat) = (s.its[k]?).map (fun i => (i.kh, i.vh)) := by
  intro a
  induction a with
  | zero =>
    intro lo f s k h hf hk hb
    obtain ⟨f, rfl⟩ : ∃ g, f = g + 1 := ⟨f - 1, by omega⟩
    obtain ⟨e1, e2⟩ := h.2.2.get ht
    conv => lhs; unfold bat
    rw [if_neg (by rw [e2]; simp), e1]
    have hs : atScan R t (leafOf s.its).kids (leafOf s.its).keys.length 0 (k : Nat) = (0 + k, 0, true) := by
      show atScan R t [] (s.its.map (·.kh)).length 0 (k : Nat) = _
      exact scan_leaf _ 0 k (by rw [List.length_map]; exact hk) (Nat.lt_trans hk hb)
    rw [hs, List.getElem?_eq_getElem hk]
    simp [bat.atGo, leafOf, hk]
  | succ a ih =>
    intro lo f s k h hf hk hb
    obtain ⟨f, rfl⟩ : ∃ g, f = g + 1 := ⟨f - 1, by omega⟩
    obtain ⟨c, l, h1, h2, h3, h4, h5, h6⟩ := h
    obtain ⟨e1, e2⟩ := h4.get ht
    rw [h1] at hk hb ⊢
    have hlen := its_le c l
    have hbs : bszR R t c.h = (c.its.length : Nat) := h5.bsz ht (Nat.lt_of_le_of_lt hlen.1 hb)
    have hbs2 : ∀ p ∈ l, bszR R t p.2.h = (p.2.its.length : Nat) := fun p hp => (h6 p hp).bsz ht (Nat.lt_of_le_of_lt (Nat.le_trans (Nat.le_succ _) (hlen.2 p hp)) hb)
    have hkd : ∀ j, j ≤ l.length → (c.h :: l.map (·.2.h)).getD (0 + j) 0 = (kid c l j).h := fun j hj => by
      rw [Nat.zero_add, List.getD_eq_getElem?_getD, kid_get c l j hj]; rfl
    obtain ⟨j, k', b, g1, g2, g3, g4⟩ := scan_inner (c.h :: l.map (·.2.h)) (by simp) c l 0 k hkd hbs hbs2 hk hb
    conv => lhs; unfold bat
    rw [if_neg (by rw [e2]; simp), e1]
    have hs : atScan R t (nodeOf c l).kids (nodeOf c l).keys.length 0 (k : Nat) = (0 + j, ((k' : Nat) : Int), b) := by
      show atScan R t (c.h :: l.map (·.2.h)) (l.map (·.1.kh)).length 0 (k : Nat) = _
      rw [List.length_map]; exact g1
    rw [hs, Nat.zero_add]
    cases b with
    | true =>
      obtain ⟨h7, h8⟩ := g3 rfl
      rw [h8]
      simp [bat.atGo, nodeOf, h7]
    | false =>
      obtain ⟨h7, h8⟩ := g4 rfl
      have hkid : At R t a (t - 1) (kid c l j) := kid_all j h5 h6
      have hll := kid_len (c := c) g2
      rw [h8, ← ih (t - 1) f (kid c l j) k' hkid (Nat.lt_of_succ_lt_succ hf) h7 (by omega)]
      have hkg := kid_get c l j g2
      show cond false _ (if (c.h :: l.map (·.2.h)) = [] then none else bat R t f ((c.h :: l.map (·.2.h)).getD j 0) (k' : Nat)) = _
      rw [cond_false, if_neg (by simp), List.getD_eq_getElem?_getD, hkg]
      rfl
end
end Bt
end Go.Proofs.YtjcpclcmnhpgpaaGreatDoor

/-
  The seat's own texts, part xk: BiQ, BsP.
-/
import Derived.Test.YtjcpclcmnhpgpaaGreatDoorFMxj

set_option linter.unusedVariables false
set_option linter.unusedSimpArgs false
namespace Go.Proofs.YtjcpclcmnhpgpaaGreatDoor
open Go.RowKit Go.Shelf
def needN (p : List Bool) : Nat := tails p + (if p.all id then 1 else 0)
def bneed (R : Nat → Option (List Nat)) (t : Nat) (key : ByteArray) (root : Nat) : Nat := if root = 0 then 1 else needN (bpath R t key 40 root)
def topSize (R : Nat → Option (List Nat)) (t a b : Nat) : Nat := ((bnG R t a).size + (bnG R t b).size + 1) % 18446744073709551616
def binTop (t : Nat) (key : ByteArray) (ak av : Nat) (R : Nat → Option (List Nat)) (st : List Nat) (root : Nat) : (Nat → Option (List Nat)) × List Nat × Nat :=
  if root = 0 then btake R t st ⟨[ak], [av], [], 1⟩
  else binUp t root (bins t key ak av 40 R st root)
where
  binUp (t root : Nat) (p : (Nat → Option (List Nat)) × List Nat × Option (Nat × Nat × Nat)) : (Nat → Option (List Nat)) × List Nat × Nat :=
    match p.2.2 with
    | none => (p.1, p.2.1, root)
    | some (a, b, r) => btake p.1 t p.2.1 ⟨[a], [b], [root, r], topSize p.1 t root r⟩
theorem It.At.congr' {R R1 : Nat → Option (List Nat)} {i : It} (h : i.At R) (e : ∀ z, R z ≠ none → R1 z = R z) : i.At R1 :=
  h.congr fun z hz => e z (by
    simp only [It.hs, List.mem_cons, List.mem_singleton, List.not_mem_nil, or_false] at hz
    rcases hz with rfl | rfl
    · rw [h.kt]; simp
    · rw [h.vt]; simp)
namespace Bt
def Tree (R : Nat → Option (List Nat)) (t root : Nat) (its : List It) (ns : List Nat) (hg : Nat) : Prop :=
  (root = 0 ∧ its = [] ∧ ns = [] ∧ hg = 0) ∨ ∃ a, hg = a + 1 ∧ At R t a 1 ⟨root, its, ns⟩
structure Own (R : Nat → Option (List Nat)) (its : List It) (ns : List Nat) : Prop where
  at' : ∀ i ∈ its, i.At R
  rise : Rising (prs its)
  nodup : (ns ++ its.flatMap It.hs).Nodup
section
variable {R R1 : Nat → Option (List Nat)} {t a lo : Nat}
theorem At.big (ht : BN.Deg t) : ∀ {a lo : Nat} {s : Sb}, At R t a lo s → (lo + 1) * t ^ a ≤ s.its.length + 1
  | 0, lo, s, h => by have := h.2.1; simp; exact this
  | a + 1, lo, s, h => by
    obtain ⟨c, l, h1, h2, h3, h4, h5, h6⟩ := h
    have t1 := ht.1
    have hc := At.big ht h5
    have hl := fun p hp => At.big ht (h6 p hp)
    have hsum : ∀ (q : Nat) (l : List Lk), (∀ p ∈ l, q ≤ p.2.its.length + 1) → l.length * q ≤ (l.flatMap fun p => p.2.its).length + l.length := by
      intro q l
      induction l with
      | nil => intro _; simp
      | cons p l ih =>
        intro h
        have h1 := h p (by simp)
        have h2 := ih (fun q hq => h q (by simp [hq]))
        simp only [List.flatMap_cons, List.length_append, List.length_cons, Nat.succ_mul]
        omega
    have h7 := hsum _ l hl
    have h8 := its_len c l
    rw [h1, h8, List.length_append]
    rw [show t - 1 + 1 = t by omega] at hc h7
    have e : (lo + 1) * t ^ (a + 1) = (lo + 1) * (t * t ^ a) := by rw [Nat.pow_succ, Nat.mul_comm (t ^ a) t]
    rw [e]
    generalize t * t ^ a = q at hc h7
    have h9 : (lo + 1) * q ≤ (l.length + 1) * q := Nat.mul_le_mul_right q (by omega)
    rw [Nat.succ_mul l.length q] at h9
    omega
theorem At.high (ht : BN.Deg t) {s : Sb} (h : At R t a 1 s) (hb : s.its.length < 549755813888) : a < 40 := by
  have h1 := h.big ht
  have h2 : 2 ^ a ≤ t ^ a := Nat.pow_le_pow_left ht.1 a
  rcases Nat.lt_or_ge a 40 with h3 | h3
  · exact h3
  · have h4 : 2 ^ 40 ≤ 2 ^ a := Nat.pow_le_pow_right (by omega) h3
    have e : (2 : Nat) ^ 40 = 1099511627776 := by decide
    rw [e] at h4
    omega
theorem At.congr' {s : Sb} (h : At R t a lo s) (e : ∀ z, R z ≠ none → R1 z = R z) : At R1 t a lo s :=
  h.congr fun x hx => e x (by obtain ⟨ws, h1, _⟩ := h.ns_rec x hx; rw [h1]; simp)
theorem path_congr (ht : BN.Deg t) (e : ∀ z, R z ≠ none → R1 z = R z) (key : ByteArray) : ∀ (a lo f : Nat) (s : Sb), At R t a lo s → (∀ i ∈ s.its, i.At R) → Rising (prs s.its) → a < f → bpath R1 t key f s.h = bpath R t key f s.h := by
  intro a
  induction a with
  | zero =>
    intro lo f s h hA hr hf
    obtain ⟨f, rfl⟩ : ∃ g, f = g + 1 := ⟨f - 1, by omega⟩
    obtain ⟨e1, e2⟩ := h.2.2.get ht
    obtain ⟨e3, e4⟩ := (h.congr' e).2.2.get ht
    rw [bpath_node e1 e2 (place_items hA hr), bpath_node e3 e4 (place_items (fun i hi => (hA i hi).congr' e) hr), if_pos (show (leafOf s.its).kids = [] from rfl)]
    rfl
  | succ a ih =>
    intro lo f s h hA hr hf
    obtain ⟨f, rfl⟩ : ∃ g, f = g + 1 := ⟨f - 1, by omega⟩
    have h' := h.congr' e
    obtain ⟨c, l, h1, h2, h3, h4, h5, h6⟩ := h
    have h4' : BnAt R1 t s.h (nodeOf c l) := ⟨(e _ (by rw [h4.1]; simp)).trans h4.1, h4.2⟩
    obtain ⟨e1, e2⟩ := h4.get ht
    obtain ⟨e3, e4⟩ := h4'.get ht
    rw [h1] at hA hr
    have hkr := keys_rising hr
    have hkA : ∀ i ∈ l.map (·.1), i.At R := fun i hi => hA i (keys_in hi)
    have hsp := spot_of (key := key) hkr
    have hpl := place_items (key := key) hkA hkr
    have hpl' := place_items (R := R1) (key := key) (fun i hi => (hkA i hi).congr' e) hkr
    rw [List.map_map] at hpl hpl'
    generalize rankL (prs (l.map (·.1))) key = k at hsp hpl hpl'
    have hkl := hsp.le
    have hkid := kid_all k h5 h6
    have hy : (nodeOf c l).kids.getD k 0 = (kid c l k).h := by
      show (c.h :: l.map (·.2.h)).getD k 0 = _
      rw [List.getD_eq_getElem?_getD, kid_get c l k hkl]; rfl
    rw [bpath_node e1 e2 hpl, bpath_node e3 e4 hpl', hy, ih (t - 1) f (kid c l k) hkid (fun i hi => hA i (kid_its hkl hi)) (kid_rising hkl hr) (by omega)]
structure Fresh (R R1 : Nat → Option (List Nat)) (t : Nat) (st : List Nat) : Prop where
  new : ∀ x ∈ st, R x = none ∧ x ≠ 0 ∧ Rec R1 t x
  nodup : st.Nodup
  old : ∀ z, z ∉ st → R1 z = R z
theorem Fresh.ext {st : List Nat} (f : Fresh R R1 t st) : ∀ z, R z ≠ none → R1 z = R z := fun z hz => f.old z fun hm => hz (f.new z hm).1
theorem path_len {key : ByteArray} (ht : BN.Deg t) : ∀ (a lo f : Nat) (s : Sb), At R t a lo s → (∀ i ∈ s.its, i.At R) → Rising (prs s.its) → a < f → (bpath R t key f s.h).length = a + 1 := by
  intro a
  induction a with
  | zero =>
    intro lo f s h hA hr hf
    obtain ⟨f, rfl⟩ : ∃ g, f = g + 1 := ⟨f - 1, by omega⟩
    obtain ⟨e1, e2⟩ := h.2.2.get ht
    rw [bpath_node e1 e2 (place_items hA hr), if_pos (show (leafOf s.its).kids = [] from rfl)]
    rfl
  | succ a ih =>
    intro lo f s h hA hr hf
    obtain ⟨f, rfl⟩ : ∃ g, f = g + 1 := ⟨f - 1, by omega⟩
    obtain ⟨c, l, h1, h2, h3, h4, h5, h6⟩ := h
    obtain ⟨e1, e2⟩ := h4.get ht
    rw [h1] at hA hr
    have hkr := keys_rising hr
    have hkA : ∀ i ∈ l.map (·.1), i.At R := fun i hi => hA i (keys_in hi)
    have hsp := spot_of (key := key) hkr
    have hpl := place_items (key := key) hkA hkr
    rw [List.map_map] at hpl
    generalize rankL (prs (l.map (·.1))) key = k at hsp hpl
    have hkl := hsp.le
    have hkid := kid_all k h5 h6
    have hy : (nodeOf c l).kids.getD k 0 = (kid c l k).h := by
      show (c.h :: l.map (·.2.h)).getD k 0 = _
      rw [List.getD_eq_getElem?_getD, kid_get c l k hkl]; rfl
    rw [bpath_node e1 e2 hpl, if_neg (show ¬ (nodeOf c l).kids = [] by simp [nodeOf]), hy, List.length_cons, ih (t - 1) f (kid c l k) hkid (fun i hi => hA i (kid_its hkl hi)) (kid_rising hkl hr) (by omega)]
theorem tails_le : ∀ (p : List Bool), tails p ≤ p.length
  | [] => Nat.le_refl _
  | b :: p => by
    unfold tails
    have := tails_le p
    split
    · split <;> simp
    · simp; omega
theorem need_le (p : List Bool) : needN p ≤ p.length + 1 := by
  unfold needN
  have := tails_le p
  split <;> omega
theorem Tree.need {root : Nat} {its : List It} {ns : List Nat} {hg : Nat} (ht : BN.Deg t) (h : Tree R t root its ns hg) (hz : R 0 = none) (ho : Own R its ns) (hb : its.length < 549755813888) (key : ByteArray) : bneed R t key root ≤ hg + 1 := by
  unfold bneed
  rcases h with ⟨rfl, _, _, rfl⟩ | ⟨a, rfl, h⟩
  · rw [if_pos rfl]; omega
  · have h0 : root ≠ 0 := fun e => h.ns_zero hz (by have := ns_pos h; rw [← e]; exact this)
    rw [if_neg h0]
    have := need_le (bpath R t key 40 root)
    have hl : (bpath R t key 40 root).length = a + 1 := path_len ht a 1 40 ⟨root, its, ns⟩ h ho.at' ho.rise (h.high ht hb)
    omega
theorem top_right (ht : BN.Deg t) (it : It) {root : Nat} {its : List It} {ns : List Nat} {hg : Nat} {st : List Nat} (h : Tree R t root its ns hg) (hz : R 0 = none) (ho : Own R its ns) (hno : findI its it.k = none) (hb : its.length < 549755813888)
    (hf : Fresh R R1 t st) (hl : st.length = bneed R t it.k root) :
    ∃ R' now ns' hg', binTop t it.k it.kh it.vh R1 st root = (R', [], now) ∧ Tree R' t now (putI its it) ns' hg' ∧ (∀ x, ns'.count x = ns.count x + st.count x) ∧ (∀ z, z ∉ ns → z ∉ st → R' z = R z) := by
  have hR10 : R1 0 = none := (hf.old 0 fun hm => (hf.new 0 hm).2.1 rfl).trans hz
  rcases h with ⟨rfl, rfl, rfl, rfl⟩ | ⟨a, rfl, h⟩
  · unfold bneed at hl
    rw [if_pos rfl] at hl
    obtain ⟨x, rfl⟩ : ∃ x, st = [x] := List.length_eq_one_iff.1 hl
    obtain ⟨x1, x2, ws, x3, x4⟩ := hf.new x (by simp)
    have hfit : (leafOf [it]).Fits t := leaf_fits (by have := ht.1; simp; omega)
    have e : binTop t it.k it.kh it.vh R1 [x] 0 = (updR R1 x (some ((leafOf [it]).wd t)), [], x) := by
      unfold binTop
      rw [if_pos rfl]
      show (bputR R1 t x (leafOf [it]), [], x) = _
      rw [bputR_same hfit x3 x4]
    refine ⟨_, x, [x], 1, e, .inr ⟨0, rfl, rfl, ?_, updR_same _ _ _, hfit⟩, fun y => ?_, fun z _ hz2 => ?_⟩
    · show 1 ≤ (putI [] it).length
      rw [putI_len]; exact Nat.le_add_left _ _
    · simp
    · rw [updR_other (by simpa using hz2), hf.old z hz2]
  · have h0 : root ≠ 0 := fun e => h.ns_zero hz (by have := ns_pos h; rw [← e]; exact this)
    have ha := h.high ht hb
    have hne : ∀ x ∈ ns, R x ≠ none := fun x hx => by obtain ⟨ws, h1, _⟩ := h.ns_rec x hx; rw [h1]; simp
    have hst : ∀ x ∈ st, x ≠ 0 ∧ x ∉ ns ∧ Rec R1 t x := fun x hx => ⟨(hf.new x hx).2.1, fun hm => hne x hm (hf.new x hx).1, (hf.new x hx).2.2⟩
    unfold bneed at hl
    rw [if_neg h0] at hl
    have hpc := path_congr ht hf.ext it.k a 1 40 ⟨root, its, ns⟩ h ho.at' ho.rise ha
    dsimp only at hpc
    have htl : tails (bpath R1 t it.k 40 root) ≤ st.length := by rw [hpc, hl]; unfold needN; omega
    obtain ⟨R2, used, st', up, g1, g2, g3, g4⟩ := ins_right (R := R1) ht it a 1 40 ⟨root, its, ns⟩ st (h.congr' hf.ext) hR10 (List.nodup_append.1 ho.nodup).1 (fun i hi => (ho.at' i hi).congr' hf.ext) ho.rise hno ha (by show its.length + 1 < _; omega) hst hf.nodup htl
    dsimp only at g1 g2 g3 g4
    rw [hpc] at g3 g4
    have hlen : st.length = used.length + st'.length := by rw [g2, List.length_append]
    have hfr : ∀ z, z ∉ ns → z ∉ st → R2 z = R z := fun z h1 h2 => (g4.frame z h1 fun h3 => h2 (by rw [g2]; simp [h3])).trans (hf.old z h2)
    cases up with
    | none =>
      obtain ⟨q1, ns', q2, q3⟩ := g4.stays rfl
      have hs0 : st' = [] := by
        unfold needN at hl
        rw [q1] at hl
        simp only [Bool.false_eq_true, if_false, Nat.add_zero] at hl
        exact List.eq_nil_of_length_eq_zero (by omega)
      subst hs0
      refine ⟨R2, root, ns', a + 1, ?_, .inr ⟨a, rfl, q2⟩, fun x => ?_, hfr⟩
      · unfold binTop
        rw [if_neg h0, g1]
        rfl
      · rw [q3 x, g2, List.append_nil]
    | some u =>
      obtain ⟨mk, mv, r⟩ := u
      obtain ⟨q1, L, Q, m, rfl, rfl, q4, rfl, q6, q7, q8, q9⟩ := g4.split _ _ _ rfl
      dsimp only at q4 q8 q9
      have hs1 : st'.length = 1 := by
        unfold needN at hl
        rw [q1] at hl
        simp only [if_true] at hl
        omega
      obtain ⟨x, rfl⟩ : ∃ x, st' = [x] := List.length_eq_one_iff.1 hs1
      have hxs : x ∈ st := by rw [g2]; simp
      obtain ⟨x1, x2, x3⟩ := hst x hxs
      have hxu : x ∉ used := fun hm => by
        have := hf.nodup
        rw [g2] at this
        exact (List.nodup_append.1 this).2.2 x hm x (by simp) rfl
      have hR20 : R2 0 = none := (g4.frame 0 (fun hm => hne 0 hm hz) (fun hm => (hst 0 (by rw [g2]; simp [hm])).1 rfl)).trans hR10
      have hL0 : L.h ≠ 0 := fun e => q6.ns_zero hR20 (by rw [← e]; exact ns_pos q6)
      have hQ0 : Q.h ≠ 0 := fun e => q7.ns_zero hR20 (by rw [← e]; exact ns_pos q7)
      have hxL : x ∉ L.ns := fun hm => by
        have h9 := q9 x
        have h10 := List.count_pos_iff.2 hm
        rw [List.count_eq_zero.2 x2, List.count_eq_zero.2 hxu] at h9
        omega
      have hxQ : x ∉ Q.ns := fun hm => by
        have h9 := q9 x
        have h10 := List.count_pos_iff.2 hm
        rw [List.count_eq_zero.2 x2, List.count_eq_zero.2 hxu] at h9
        omega
      have hitl : putI its it = itsOf L [(m, Q)] := by rw [q8]; simp [itsOf, rest]
      have hlp := putI_len its it
      have hts : topSize R2 t root Q.h = (itsOf L [(m, Q)]).length := by
        unfold topSize
        rw [← q4, q6.sizeOf ht, q7.sizeOf ht, ← hitl, hlp]
        rw [q8] at hlp
        rw [List.length_append, List.length_cons] at hlp
        rw [Nat.mod_eq_of_lt (by omega)]
        omega
      have hn : (⟨[m.kh], [m.vh], [root, Q.h], topSize R2 t root Q.h⟩ : BN) = nodeOf L [(m, Q)] := by rw [hts, ← q4]; rfl
      have hfit : (nodeOf L [(m, Q)]).Fits t := node_fits (by have := ht.1; simp; omega) (by
        simp only [List.map_cons, List.map_nil, List.mem_cons, List.not_mem_nil, or_false, not_or]
        exact ⟨fun e => hL0 e.symm, fun e => hQ0 e.symm⟩)
      obtain ⟨ws, x4, x5⟩ := g4.recs x x3
      refine ⟨updR R2 x (some ((nodeOf L [(m, Q)]).wd t)), x, x :: nsOf L [(m, Q)], a + 2, ?_, .inr ⟨a + 1, rfl, L, [(m, Q)], hitl, rfl, by simp, ⟨updR_same _ _ _, hfit⟩, upd_at q6 hxL, fun p hp => ?_⟩, fun y => ?_, fun z hz1 hz2 => ?_⟩
      · unfold binTop
        rw [if_neg h0, g1]
        show btake R2 t [x] ⟨[m.kh], [m.vh], [root, Q.h], topSize R2 t root Q.h⟩ = _
        rw [hn]
        show (bputR R2 t x _, [], x) = _
        rw [bputR_same hfit x4 x5]
      · rw [List.mem_singleton] at hp
        rw [hp]
        exact upd_at q7 hxQ
      · have h9 := q9 y
        rw [g2]
        simp only [nsOf, List.flatMap_cons, List.flatMap_nil, List.append_nil, List.count_cons, List.count_append, List.count_nil]
        omega
      · rw [updR_other (fun e => hz2 (by rw [e]; exact hxs)), hfr z hz1 hz2]
end
end Bt
end Go.Proofs.YtjcpclcmnhpgpaaGreatDoor

set_option linter.unusedVariables false
set_option linter.unusedSimpArgs false
namespace Go.Proofs.YtjcpclcmnhpgpaaGreatDoor
open Go.RowKit Go.Shelf
def BN.setKV (n : BN) (k a b : Nat) : BN := ⟨n.keys.set k a, n.vals.set k b, n.kids, n.size⟩
def bswap (R : Nat → Option (List Nat)) (t : Nat) (key : ByteArray) (ak av : Nat) : Nat → Nat → (Nat → Option (List Nat)) × Option (Nat × Nat)
  | 0, _ => (R, none)
  | f + 1, h =>
    if bnE R t h ≠ 0 then (R, none) else
    swGo (bnG R t h) h (plK R (bnG R t h).keys key) (plH R (bnG R t h).keys key) (bswap R t key ak av f)
where
  swGo (n : BN) (h k : Nat) (b : Bool) (rec : Nat → (Nat → Option (List Nat)) × Option (Nat × Nat)) : (Nat → Option (List Nat)) × Option (Nat × Nat) :=
    cond b (bputR R t h (n.setKV k ak av), some (n.keys.getD k 0, n.vals.getD k 0)) (if n.kids = [] then (R, none) else rec (n.kids.getD k 0))
namespace Bt
def setI (l : List It) (it : It) : List It := l.map fun i => if i.k = it.k then it else i
theorem setI_len (l : List It) (it : It) : (setI l it).length = l.length := by simp [setI]
theorem setI_append (a b : List It) (it : It) : setI (a ++ b) it = setI a it ++ setI b it := by simp [setI]
theorem setI_none {l : List It} {it : It} (h : ∀ i ∈ l, i.k ≠ it.k) : setI l it = l := by
  unfold setI
  conv => rhs; rw [← List.map_id l]
  exact List.map_congr_left fun i hi => if_neg (h i hi)
theorem low_ne {a b : List It} {x : It} (hr : Rising (prs (a ++ x :: b))) : (∀ i ∈ a, i.k ≠ x.k) ∧ ∀ i ∈ b, i.k ≠ x.k := by
  rw [prs_append, prs_cons] at hr
  obtain ⟨h1, h2, h3⟩ := List.pairwise_append.1 hr
  refine ⟨fun i hi e => ?_, fun i hi e => ?_⟩
  · have := h3 i.pr (List.mem_map.2 ⟨i, hi, rfl⟩) x.pr (by simp)
    rw [show i.pr.1 = x.pr.1 from e, (cmp_zero.2 rfl : Tx.cmp x.pr.1 x.pr.1 = 0)] at this
    omega
  · have := (List.pairwise_cons.1 h2).1 i.pr (List.mem_map.2 ⟨i, hi, rfl⟩)
    rw [show i.pr.1 = x.pr.1 from e, (cmp_zero.2 rfl : Tx.cmp x.pr.1 x.pr.1 = 0)] at this
    omega
theorem setI_mid {a b : List It} {x it : It} (hr : Rising (prs (a ++ x :: b))) (he : x.k = it.k) : setI (a ++ x :: b) it = a ++ it :: b := by
  obtain ⟨h1, h2⟩ := low_ne hr
  rw [he] at h1 h2
  rw [setI_append, setI_none h1]
  show a ++ (if x.k = it.k then it else x) :: setI b it = _
  rw [if_pos he, setI_none h2]
theorem setI_set {l : List It} {it : It} {k : Nat} (hk : k < l.length) (hr : Rising (prs l)) (he : l[k].k = it.k) : setI l it = l.set k it := by
  have e : l = l.take k ++ l[k] :: l.drop (k + 1) := by rw [← List.drop_eq_getElem_cons hk, List.take_append_drop]
  rw [List.set_eq_take_append_cons_drop, if_pos hk]
  conv => lhs; rw [e]
  rw [e] at hr
  exact setI_mid hr he
theorem setI_prs {l : List It} {it x : It} (hr : Rising (prs l)) (hf : findI l it.k = some x) : prs (setI l it) = putL (prs l) it.pr := by
  obtain ⟨h1, h2⟩ := (findI_has hr).2 x hf
  obtain ⟨hlt, h3⟩ := List.getElem?_eq_some_iff.1 h1
  have hr2 := hr
  rw [setI_set hlt hr (by rw [h3]; exact h2)]
  have hp : (prs l)[rankL (prs l) it.k]? = some x.pr := by unfold prs at h1 ⊢; rw [List.getElem?_map, h1]; rfl
  unfold putL
  show prs (l.set (rankL (prs l) it.k) it) = _
  rw [show it.pr.1 = it.k from rfl, hp]
  generalize rankL (prs l) it.k = r at *
  rw [List.set_eq_take_append_cons_drop, if_pos hlt]
  simp only [Option.map_some, show x.pr.1 = x.k from rfl, h2]
  simp [prs, List.map_take, List.map_drop]
section
variable {R : Nat → Option (List Nat)} {t : Nat}
theorem swap_node {key : ByteArray} {ak av f x k : Nat} {n : BN} {b : Bool} (e1 : bnG R t x = n) (e2 : bnE R t x = 0) (hk : plK R n.keys key = k) (hb : plH R n.keys key = b) : bswap R t key ak av (f + 1) x = bswap.swGo R t ak av n x k b (bswap R t key ak av f) := by
  subst e1 hk hb
  conv => lhs; unfold bswap
  rw [if_neg (by rw [e2]; simp)]
theorem swap_right (ht : BN.Deg t) (it old : It) : ∀ (a lo f : Nat) (s : Sb), At R t a lo s → R 0 = none → s.ns.Nodup → (∀ i ∈ s.its, i.At R) → Rising (prs s.its) → findI s.its it.k = some old → a < f →
    ∃ R', bswap R t it.k it.kh it.vh f s.h = (R', some (old.kh, old.vh)) ∧ At R' t a lo ⟨s.h, setI s.its it, s.ns⟩ ∧ (∀ z, z ∉ s.ns → R' z = R z) := by
  intro a
  induction a with
  | zero =>
    intro lo f s h hz hnd hA hr hfi hf
    obtain ⟨f, rfl⟩ : ∃ g, f = g + 1 := ⟨f - 1, by omega⟩
    obtain ⟨e1, e2⟩ := h.2.2.get ht
    obtain ⟨g1, g2⟩ := (findI_has hr).2 old hfi
    obtain ⟨hlt, g3⟩ := List.getElem?_eq_some_iff.1 g1
    rw [swap_node e1 e2 (place_items hA hr) (here_items hA hr), hfi]
    have hn : (leafOf s.its).setKV (rankL (prs s.its) it.k) it.kh it.vh = leafOf (setI s.its it) := by
      rw [setI_set hlt hr (by rw [g3]; exact g2)]
      simp [BN.setKV, leafOf, List.map_set]
    have hfit : (leafOf (setI s.its it)).Fits t := leaf_fits (by rw [setI_len]; have := h.2.2.2.1; simpa [leafOf] using this)
    refine ⟨updR R s.h (some ((leafOf (setI s.its it)).wd t)), ?_, ⟨h.1, by show lo ≤ (setI s.its it).length; rw [setI_len]; exact h.2.1, updR_same _ _ _, hfit⟩, fun z hzn => updR_other fun e => hzn (by rw [h.1, e]; simp)⟩
    unfold bswap.swGo
    rw [Option.isSome_some, cond_true, hn, bputR_same hfit h.2.2.1 (BN.wd_len _ _)]
    simp [leafOf, hlt, g3]
  | succ a ih =>
    intro lo f s h hz hnd hA hr hfi hf
    obtain ⟨f, rfl⟩ : ∃ g, f = g + 1 := ⟨f - 1, by omega⟩
    have hzs := h.ns_zero hz
    obtain ⟨c, l, h1, h2, h3, h4, h5, h6⟩ := h
    obtain ⟨e1, e2⟩ := h4.get ht
    obtain ⟨s_h, s_its, s_ns⟩ := s
    dsimp only at h1 h2 h4 hA hr hfi hnd e1 e2 hzs ⊢
    subst h1 h2
    obtain ⟨nh, nn⟩ := List.nodup_cons.1 hnd
    have hkr := keys_rising hr
    have hkA : ∀ i ∈ l.map (·.1), i.At R := fun i hi => hA i (keys_in hi)
    have hsp := spot_of (key := it.k) hkr
    have hpl := place_items (key := it.k) hkA hkr
    have hhe := here_items (key := it.k) hkA hkr
    rw [List.map_map] at hpl hhe
    have hfh := fun i => (findI_has (key := it.k) hkr).2 i
    generalize rankL (prs (l.map (·.1))) it.k = k at hsp hpl hfh
    have hkl := hsp.le
    rw [swap_node e1 e2 hpl hhe]
    have hfit := h4.2
    cases hfk : findI (l.map (·.1)) it.k with
    | some i =>
      obtain ⟨g1, g2⟩ := hfh i hfk
      rw [List.getElem?_map] at g1
      by_cases hlt : k < l.length
      · rw [List.getElem?_eq_getElem hlt] at g1
        simp only [Option.map_some, Option.some.injEq] at g1
        have hke : l[k].1.k = it.k := by rw [g1]; exact g2
        have ho : l[k].1 = old := by
          have := hsp.here hr hlt hke
          rw [hfi] at this
          exact (Option.some.inj this).symm
        obtain ⟨l', hl'⟩ : ∃ l', l' = l.set k (it, l[k].2) := ⟨_, rfl⟩
        have hlen : l'.length = l.length := by rw [hl']; simp
        have hk2 : l'.map (·.2.h) = l.map (·.2.h) := by
          rw [hl', List.map_set]
          refine List.ext_getElem (by simp) fun j q1 q2 => ?_
          rw [List.getElem_set]
          split
          · next e => subst e; simp
          · rfl
        have hits : itsOf c l' = setI (itsOf c l) it := by
          have e1 : itsOf c l = (pre c l k ++ (kid c l k).its) ++ l[k].1 :: (l[k].2.its ++ rest (l.drop (k + 1))) := by
            rw [parts_at c l k hkl, List.drop_eq_getElem_cons hlt, rest_cons]; simp
          have hpk : ∀ (l l' : List Lk) (c : Sb) (k : Nat), k ≤ l.length → l'.take k = l.take k → pre c l' k = pre c l k ∧ kid c l' k = kid c l k := by
            intro l
            induction l with
            | nil => intro l' c k h1 h2; obtain rfl : k = 0 := by simpa using h1
                     cases l' <;> exact ⟨rfl, rfl⟩
            | cons p l ih =>
              intro l' c k h1 h2
              cases k with
              | zero => cases l' <;> exact ⟨rfl, rfl⟩
              | succ k =>
                cases l' with
                | nil => simp at h2
                | cons p' l' =>
                  simp only [List.take_succ_cons, List.cons.injEq] at h2
                  obtain ⟨rfl, h2⟩ := h2
                  obtain ⟨q1, q2⟩ := ih l' p'.2 k (by simpa using h1) h2
                  exact ⟨by simp only [pre, q1], by simp only [kid, q2]⟩
          obtain ⟨q1, q2⟩ := hpk l l' c k hkl (by rw [hl', List.take_set_of_le (Nat.le_refl _)])
          have hlt' : k < l'.length := by rw [hlen]; exact hlt
          have e2 : itsOf c l' = (pre c l k ++ (kid c l k).its) ++ it :: (l[k].2.its ++ rest (l.drop (k + 1))) := by
            rw [parts_at c l' k (by omega), q1, q2, List.drop_eq_getElem_cons hlt', rest_cons]
            have q3 : l'[k] = (it, l[k].2) := by simp [hl']
            have q4 : l'.drop (k + 1) = l.drop (k + 1) := by rw [hl', List.drop_set_of_lt (by omega)]
            rw [q3, q4]; simp
          rw [e2]
          rw [e1] at hr ⊢
          exact (setI_mid hr hke).symm
        have hn : (nodeOf c l).setKV k it.kh it.vh = nodeOf c l' := by
          have : (itsOf c l').length = (itsOf c l).length := by rw [hits, setI_len]
          unfold nodeOf
          rw [hk2, this]
          simp [BN.setKV, hl', List.map_set]
        have hfit' : (nodeOf c l').Fits t := node_fits (by rw [hlen]; have := hfit.1; rwa [(node_keys c l).1] at this) (by
          rw [hk2]
          rcases hfit.2.2 with h | h
          · exact absurd h (by simp [nodeOf])
          · exact h.2)
        have hns : nsOf c l' = nsOf c l := by
          unfold nsOf
          congr 1
          rw [← List.flatMap_map (f := fun p : Lk => p.2) (g := fun s : Sb => s.ns), ← List.flatMap_map (f := fun p : Lk => p.2) (g := fun s : Sb => s.ns)]
          congr 1
          rw [hl', List.map_set]
          refine List.ext_getElem (by simp) fun j q1 q2 => ?_
          rw [List.getElem_set]
          split
          · next e => subst e; simp
          · rfl
        have h6' : ∀ p ∈ l', At R t a (t - 1) p.2 := fun p hp => by
          rw [hl'] at hp
          rcases List.mem_or_eq_of_mem_set hp with hp | rfl
          · exact h6 p hp
          · exact h6 l[k] (List.getElem_mem hlt)
        have h6n : ∀ p ∈ l', s_h ∉ p.2.ns := fun p hp hm => nh (by rw [← hns]; exact mem_ns hp hm)
        refine ⟨updR R s_h (some ((nodeOf c l').wd t)), ?_, ⟨c, l', hits.symm, by rw [hns], by rw [hlen]; exact h3, ⟨updR_same _ _ _, hfit'⟩, upd_at h5 (fun hm => nh (List.mem_append.2 (.inl hm))), fun p hp => upd_at (h6' p hp) (h6n p hp)⟩, fun z hzn => updR_other fun e => hzn (by rw [e]; simp)⟩
        unfold bswap.swGo
        rw [Option.isSome_some, cond_true, hn, bputR_same hfit' h4.1 (BN.wd_len _ _), ← ho]
        simp [nodeOf, hlt]
      · rw [List.getElem?_eq_none (Nat.le_of_not_lt hlt)] at g1
        cases g1
    | none =>
      have hno : ∀ hk' : k < l.length, l[k].1.k ≠ it.k := fun hk' e => by
        unfold findI at hfk
        rw [List.find?_eq_none] at hfk
        exact absurd (hfk l[k].1 (List.mem_map.2 ⟨l[k], List.getElem_mem hk', rfl⟩)) (by simpa using e)
      have hkid := kid_all k h5 h6
      have hkg := kid_get c l k hkl
      rw [hsp.gone hr hno] at hfi
      obtain ⟨R', g1, g2, g3⟩ := ih (t - 1) f (kid c l k) hkid hz (kid_nodup hkl nn) (fun i hi => hA i (kid_its hkl hi)) (kid_rising hkl hr) hfi (by omega)
      have hat := setKid_at (a := a) (lo := t - 1) hkl nn h5 h6 (fun z _ hz2 => g3 z hz2) g2
      have hlen := setKid_len c l k ⟨(kid c l k).h, setI (kid c l k).its it, (kid c l k).ns⟩ hkl
      have hhs := setKid_hs c l k ⟨(kid c l k).h, setI (kid c l k).its it, (kid c l k).ns⟩ hkl rfl
      have hits := setKid_its c l k ⟨(kid c l k).h, setI (kid c l k).its it, (kid c l k).ns⟩ hkl
      have hkeys := setKid_keys c l k ⟨(kid c l k).h, setI (kid c l k).its it, (kid c l k).ns⟩ hkl
      have hnsq : nsOf (setKid c l k ⟨(kid c l k).h, setI (kid c l k).its it, (kid c l k).ns⟩).1 (setKid c l k ⟨(kid c l k).h, setI (kid c l k).its it, (kid c l k).ns⟩).2 = nsOf c l := by
        have : ∀ (c : Sb) (l : List Lk) (k : Nat) (s : Sb), k ≤ l.length → s.ns = (kid c l k).ns → nsOf (setKid c l k s).1 (setKid c l k s).2 = nsOf c l := by
          intro c l
          induction l generalizing c with
          | nil => intro k s hk hs; obtain rfl : k = 0 := by simpa using hk
                   simpa [setKid, nsOf, kid] using hs
          | cons p l ih =>
            intro k s hk hs
            cases k with
            | zero => simp only [setKid, nsOf]; rw [hs]; rfl
            | succ k =>
              have := ih p.2 k s (by simpa using hk) hs
              simp only [setKid]
              rw [nsOf_cons, nsOf_cons, this]
        exact this c l k _ hkl rfl
      have hits2 : itsOf (setKid c l k ⟨(kid c l k).h, setI (kid c l k).its it, (kid c l k).ns⟩).1 (setKid c l k ⟨(kid c l k).h, setI (kid c l k).its it, (kid c l k).ns⟩).2 = setI (itsOf c l) it := by
        rw [hits, parts_at c l k hkl, setI_append, setI_append, setI_none (not_key_low (hsp.pre hr))]
        congr 2
        symm
        refine setI_none fun i hi e => ?_
        have hp := hsp.post hr i.pr (List.mem_map.2 ⟨i, hi, rfl⟩)
        by_cases hlt : k < l.length
        · have hh := hsp.high k hlt (Nat.le_refl _)
          have hne := hno hlt
          rw [List.drop_eq_getElem_cons hlt, rest_cons] at hi
          rcases List.mem_cons.1 hi with rfl | hi
          · exact hne e
          · have hr9 := hr
            rw [parts_at c l k hkl, List.drop_eq_getElem_cons hlt, rest_cons, ← List.append_assoc, prs_append, prs_cons] at hr9
            have h1 := (List.pairwise_cons.1 (List.pairwise_append.1 hr9).2.1).1 i.pr (List.mem_map.2 ⟨i, hi, rfl⟩)
            have h2 : Tx.cmp l[k].1.k it.k < 0 := by rw [← e]; exact h1
            exact hh h2
        · rw [List.drop_eq_nil_of_le (by omega)] at hi
          simp [rest] at hi
      generalize setKid c l k ⟨(kid c l k).h, setI (kid c l k).its it, (kid c l k).ns⟩ = cl at hat hlen hhs hits hkeys hnsq hits2
      obtain ⟨c', l'⟩ := cl
      dsimp only at hat hlen hhs hits hkeys hnsq hits2
      have hn : nodeOf c' l' = nodeOf c l := by
        unfold nodeOf
        rw [hits2, setI_len, map_kh, map_vh, hkeys, ← map_kh, ← map_vh, hhs]
      have hsk : s_h ∉ (kid c l k).ns := fun hm => nh (kid_ns hkl hm)
      refine ⟨R', ?_, ⟨c', l', hits2.symm, by rw [hnsq], by rw [hlen]; exact h3, by rw [hn]; exact ⟨(g3 s_h hsk).trans h4.1, h4.2⟩, hat.1, hat.2⟩, fun z hzn => g3 z fun hm => hzn (List.mem_cons_of_mem _ (kid_ns hkl hm))⟩
      unfold bswap.swGo
      rw [Option.isSome_none, cond_false, if_neg (by simp [nodeOf])]
      show bswap R t it.k it.kh it.vh f ((c.h :: l.map (·.2.h)).getD k 0) = _
      rw [List.getD_eq_getElem?_getD, hkg]
      exact g1
end
end Bt
end Go.Proofs.YtjcpclcmnhpgpaaGreatDoor
